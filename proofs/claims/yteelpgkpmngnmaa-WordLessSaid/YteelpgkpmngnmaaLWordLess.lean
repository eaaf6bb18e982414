/- WordLess: whatever the numbers, the law answers true. No condition. -/
import Derived.Test.YteelpgkpmngnmaaGWord3
import Derived.Test.YteelpgkpmngnmaaGMisc
namespace Go.Proofs.Yteelpgkpmngnmaa.L
open Go.RowKit Go.Proofs.Yteelpgkpmngnmaa.G Go.Proofs.Yteelpgkpmngnmaa.WordPlain
set_option linter.unusedVariables false
set_option linter.unusedSimpArgs false

theorem run_min2u {P : Program} (ats : Array TypeId) (ty : TypeId) (a b : Int) (W : World) :
    (Builtin.min_ ats ty #[.int .u64 a, .int .u64 b]).run P W = .ok (.int .u64 (min a b)) W := by
  have h : ∀ x y : Int, (if y < x then y else x) = min x y := by intro x y; split <;> omega
  simp [Builtin.min_, Builtin.min2, List.foldlM_cons, List.foldlM_nil, h]

set_option maxRecDepth 100000 in
set_option maxHeartbeats 4000000 in
theorem less_walk (a b c : Nat) (w : World) (ha : a < 18446744073709551616) (hb : b < 18446744073709551616) (hc : c < 18446744073709551616) :
    Calls Try.prog 9 #[.int .u64 a, .int .u64 b, .int .u64 c] w fun e w' => e = .returned (.bool true) ∧ Below w.heap.size w w' := by
  obtain ⟨x, hx⟩ : ∃ x, x = a - b := ⟨_, rfl⟩
  obtain ⟨y, hy⟩ : ∃ x, x = b - a := ⟨_, rfl⟩
  obtain ⟨m, hm⟩ : ∃ x, x = min a b := ⟨_, rfl⟩
  obtain ⟨u, hu⟩ : ∃ x, x = a - b - c := ⟨_, rfl⟩
  obtain ⟨v, hv⟩ : ∃ x, x = a - c := ⟨_, rfl⟩
  have hmin : ∀ W, (Builtin.min_ #[22, 22] 22 #[.int .u64 (a : Int), .int .u64 (b : Int)]).run Try.prog W = .ok (.int .u64 (m : Int)) W := by
    intro W
    rw [run_min2u, show min (a : Int) (b : Int) = (m : Int) from by omega]
  have c1 := fun W => Add_val x m a false W (by omega) (by omega) (Lib.hid (by unfold addV; rw [if_neg (by omega)]; omega)) (Lib.hid (by unfold addO; exact (decide_eq_false (by omega)).symm))
  have l1 := fun W => Less_val a b x W ha hx
  have l2 := fun W => Less_val b a y W hb hy
  have l3 := fun W => Less_val x c u W (by omega) (Lib.hid (show u = x - c by omega))
  have l4 := fun W => Less_val a c v W ha hv
  have l5 := fun W => Less_val v b u W (by omega) (Lib.hid (show u = v - b by omega))
  have C1 := Lib.hid c1
  have L1 := Lib.hid l1
  have L2 := Lib.hid l2
  have L3 := Lib.hid l3
  have L4 := Lib.hid l4
  have L5 := Lib.hid l5
  have t : (((x : Int) == 0) = true ∧ ((y : Int) == 0) = true ∧ ((a : Int) == (b : Int)) = true) ∨ (((x : Int) == 0) = true ∧ ((y : Int) == 0) = false ∧ ((a : Int) == (b : Int)) = false) ∨ (((x : Int) == 0) = false ∧ ((y : Int) == 0) = true ∧ ((a : Int) == (b : Int)) = false) := by
    simp only [beq_iff_eq, beq_eq_false_iff_ne]
    omega
  clear hx hy hm hu hv c1 l1 l2 l3 l4 l5
  rcases t with ⟨q1, q2, q3⟩ | ⟨q1, q2, q3⟩ | ⟨q1, q2, q3⟩
  all_goals
    go_enter Try.func9, Try.ntmps9
    go_wp2_with fail
    refine (L1.out _).mono ?_; rintro e w1 ⟨rfl, rfl⟩
    go_wp2_with fail
    refine (L2.out _).mono ?_; rintro e w1 ⟨rfl, rfl⟩
    go_wp2_with fail
    refine (C1.out _).mono ?_; rintro e w1 ⟨rfl, rfl⟩
    go_wp2_with fail
    refine (L1.out _).mono ?_; rintro e w1 ⟨rfl, rfl⟩
    go_wp2_with fail
    refine (L3.out _).mono ?_; rintro e w1 ⟨rfl, rfl⟩
    go_wp2_with fail
    refine (L4.out _).mono ?_; rintro e w1 ⟨rfl, rfl⟩
    go_wp2_with fail
    refine (L5.out _).mono ?_; rintro e w1 ⟨rfl, rfl⟩
    go_wp2_with fail
    refine (fixed_val _).mono ?_; rintro e w1 ⟨rfl, hb1⟩
    go_wp2_with fail
    go_ret
    exact ⟨rfl, hb1⟩

theorem WordLess_walk (a0 a1 a2 : Int) (w : World) (w0 : (Lit.int .u64 a0).wf = true) (w1 : (Lit.int .u64 a1).wf = true) (w2 : (Lit.int .u64 a2).wf = true) :
    Calls Try.prog 9 #[.int .u64 a0, .int .u64 a1, .int .u64 a2] w fun e w' => e = .returned (.bool true) ∧ Below w.heap.size w w' := by
  obtain ⟨a, rfl, ha⟩ := u64_wf a0 w0
  obtain ⟨b, rfl, hb⟩ := u64_wf a1 w1
  obtain ⟨c, rfl, hc⟩ := u64_wf a2 w2
  exact less_walk a b c w ha hb hc
end Go.Proofs.Yteelpgkpmngnmaa.L
