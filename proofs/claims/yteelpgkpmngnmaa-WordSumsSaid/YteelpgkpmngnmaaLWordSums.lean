/- WordSums: whatever the numbers, the law answers true. No condition. -/
import Derived.Test.YteelpgkpmngnmaaGWord3
import Derived.Test.YteelpgkpmngnmaaGMisc
namespace Go.Proofs.Yteelpgkpmngnmaa.L
open Go.RowKit Go.Proofs.Yteelpgkpmngnmaa.G Go.Proofs.Yteelpgkpmngnmaa.WordPlain
set_option linter.unusedVariables false
set_option linter.unusedSimpArgs false

set_option maxRecDepth 100000 in
set_option maxHeartbeats 4000000 in
theorem sums_walk (a b : Nat) (w : World) (ha : a < 18446744073709551616) (hb : b < 18446744073709551616) :
    Calls Try.prog 5 #[.int .u64 a, .int .u64 b] w fun e w' => e = .returned (.bool true) ∧ Below w.heap.size w w' := by
  have h0 : Hid (0 = a - a) := by show 0 = a - a; omega
  have h1 : Hid (a = a - 0) := by show a = a - 0; omega
  by_cases h : 18446744073709551616 ≤ a + b
  · have c1 := fun W => Add_val a b 18446744073709551615 true W ha hb (Lib.hid (by unfold addV; rw [if_pos h])) (Lib.hid (by unfold addO; exact (decide_eq_true h).symm))
    have c2 := fun W => Add_val b a 18446744073709551615 true W hb ha (Lib.hid (by unfold addV; rw [if_pos (by omega)])) (Lib.hid (by unfold addO; exact (decide_eq_true (by omega)).symm))
    have C1 := Lib.hid c1
    have C2 := Lib.hid c2
    clear c1 c2 h
    go_enter Try.func5, Try.ntmps5
    go_wp2_with fail
    refine (C1.out _).mono ?_; rintro e w1 ⟨rfl, rfl⟩
    go_wp2_with fail
    refine (C2.out _).mono ?_; rintro e w1 ⟨rfl, rfl⟩
    go_wp2_with fail
    refine (Less_val a a 0 _ ha h0).mono ?_; rintro e w1 ⟨rfl, rfl⟩
    go_wp2_with fail
    refine (Less_val a 0 a _ ha h1).mono ?_; rintro e w1 ⟨rfl, rfl⟩
    go_wp2_with fail
    refine (fixed_val _).mono ?_; rintro e w1 ⟨rfl, hb1⟩
    go_wp2_with fail
    go_ret
    exact ⟨rfl, hb1⟩
  · obtain ⟨c, hc⟩ : ∃ c, c = a + b := ⟨_, rfl⟩
    have c1 := fun W => Add_val a b c false W ha hb (Lib.hid (by unfold addV; rw [if_neg h]; exact hc)) (Lib.hid (by unfold addO; exact (decide_eq_false h).symm))
    have c2 := fun W => Add_val b a c false W hb ha (Lib.hid (by unfold addV; rw [if_neg (by omega)]; omega)) (Lib.hid (by unfold addO; exact (decide_eq_false (by omega)).symm))
    have c3 : Hid (b = c - a) := by show b = c - a; omega
    have c4 : Hid (a = c - b) := by show a = c - b; omega
    have C1 := Lib.hid c1
    have C2 := Lib.hid c2
    have k1 : a ≤ c := by omega
    have k2 : b ≤ c := by omega
    have k3 : c < 18446744073709551616 := by omega
    clear c1 c2 h hc
    go_enter Try.func5, Try.ntmps5
    go_wp2_with fail
    refine (C1.out _).mono ?_; rintro e w1 ⟨rfl, rfl⟩
    go_wp2_with fail
    refine (C2.out _).mono ?_; rintro e w1 ⟨rfl, rfl⟩
    go_wp2_with fail
    refine (Less_val c a b _ k3 c3).mono ?_; rintro e w1 ⟨rfl, rfl⟩
    go_wp2_with fail
    refine (Less_val c b a _ k3 c4).mono ?_; rintro e w1 ⟨rfl, rfl⟩
    go_wp2_with fail
    refine (Less_val a a 0 _ ha h0).mono ?_; rintro e w1 ⟨rfl, rfl⟩
    go_wp2_with fail
    refine (Less_val a 0 a _ ha h1).mono ?_; rintro e w1 ⟨rfl, rfl⟩
    go_wp2_with fail
    refine (fixed_val _).mono ?_; rintro e w1 ⟨rfl, hb1⟩
    go_wp2_with fail
    go_ret
    exact ⟨rfl, hb1⟩

theorem WordSums_walk (a0 a1 : Int) (w : World) (w0 : (Lit.int .u64 a0).wf = true) (w1 : (Lit.int .u64 a1).wf = true) :
    Calls Try.prog 5 #[.int .u64 a0, .int .u64 a1] w fun e w' => e = .returned (.bool true) ∧ Below w.heap.size w w' := by
  obtain ⟨a, rfl, ha⟩ := u64_wf a0 w0
  obtain ⟨b, rfl, hb⟩ := u64_wf a1 w1
  exact sums_walk a b w ha hb
end Go.Proofs.Yteelpgkpmngnmaa.L
