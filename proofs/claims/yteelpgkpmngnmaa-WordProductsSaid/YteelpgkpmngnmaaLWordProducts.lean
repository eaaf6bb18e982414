/- WordProducts: whatever the numbers, the law answers true. No condition. -/
import Derived.Test.YteelpgkpmngnmaaGWord3
import Derived.Test.YteelpgkpmngnmaaGMisc
namespace Go.Proofs.Yteelpgkpmngnmaa.L
open Go.RowKit Go.Proofs.Yteelpgkpmngnmaa.G Go.Proofs.Yteelpgkpmngnmaa.WordPlain
set_option linter.unusedVariables false
set_option linter.unusedSimpArgs false

theorem mul_facts (a n : Nat) (ha : a < 18446744073709551616) : mulV a n ≤ mulV a (n + 1) ∧ (mulO a n = false → mulV a (n + 1) = addV (mulV a n) a ∧ mulO a (n + 1) = addO (mulV a n) a) ∧ (mulO a n = true → mulO a (n + 1) = true) ∧ mulV a n < 18446744073709551616 := by
  have e : a * (n + 1) = a * n + a := Nat.mul_succ a n
  unfold mulV mulO addV addO
  rw [e]
  refine ⟨?_, ?_, ?_, ?_⟩
  · split <;> split <;> omega
  · intro h
    have h' : ¬ 18446744073709551616 ≤ a * n := of_decide_eq_false h
    rw [if_neg h']
    exact ⟨rfl, rfl⟩
  · intro h
    have h' : 18446744073709551616 ≤ a * n := of_decide_eq_true h
    exact decide_eq_true (by omega)
  · split <;> omega

set_option maxRecDepth 100000 in
set_option maxHeartbeats 4000000 in
theorem products_core (a b c D F H J : Nat) (O G I K : Bool) (w : World) (ha : a < 18446744073709551616) (hb : b < 18446744073709551616) (hc : c < 256)
    (hD : Hid (D = mulV a b)) (hO : Hid (O = mulO a b)) (hD' : Hid (D = mulV b a)) (hO' : Hid (O = mulO b a)) (hF : Hid (F = mulV a c)) (hG : Hid (G = mulO a c)) (hH : Hid (H = mulV a (c + 1))) (hI : Hid (I = mulO a (c + 1)))
    (hJ : Hid (J = addV F a)) (hK : Hid (K = addO F a)) (k1 : F ≤ H) (k2 : F < 18446744073709551616) (kD : O = true → D = 18446744073709551615) (k3 : G = false → H = J ∧ I = K) (k4 : G = true → I = true) :
    Calls Try.prog 6 #[.int .u64 a, .int .u64 b, .int .u8 c] w fun e w' => e = .returned (.bool true) ∧ Below w.heap.size w w' := by
  have t1 : ((D : Int) == 18446744073709551615) = O ∨ O = false := by
    cases O with
    | false => exact Or.inr rfl
    | true => left; rw [kD rfl]; rfl
  have m1 := fun W => Mul_val a b D O W ha hb hD hO
  have m2 := fun W => Mul_val b a D O W hb ha hD' hO'
  have m3 := fun W => Mul_val a c F G W ha (by omega) hF hG
  have m4 := fun W => Mul_val a (c + 1) H I W ha (by omega) hH hI
  have m5 := fun W => Add_val F a J K W k2 ha hJ hK
  have M1 := Lib.hid m1
  have M2 := Lib.hid m2
  have M3 := Lib.hid m3
  have M4 := Lib.hid m4
  have M5 := Lib.hid m5
  have e1 : ((H : Int) == (J : Int)) = true ∨ G = true := by
    cases G with
    | true => exact Or.inr rfl
    | false => left; rw [(k3 rfl).1]; exact beq_self_eq_true _
  have e2 : I = K ∨ G = true := by
    cases G with
    | true => exact Or.inr rfl
    | false => left; rw [(k3 rfl).2]
  clear m1 m2 m3 m4 m5 kD k3 hD hO hD' hO' hF hG hH hI hJ hK
  have go : ∀ e, (e = (I == K)) → True := fun _ _ => trivial
  clear go
  cases O <;> cases G <;> cases I
  case false.true.false => cases k4 rfl
  case true.true.false => cases k4 rfl
  all_goals
    simp only [Bool.true_eq_false, Bool.false_eq_true, or_true, or_false] at t1 e1 e2
    try subst e2
    clear k4
    go_enter Try.func6, Try.ntmps6
    go_wp2_with fail
    refine (M1.out _).mono ?_; rintro e w1 ⟨rfl, rfl⟩
    go_wp2_with fail
    refine (M2.out _).mono ?_; rintro e w1 ⟨rfl, rfl⟩
    go_wp2_with fail
    refine (M3.out _).mono ?_; rintro e w1 ⟨rfl, rfl⟩
    go_wp2_with fail
    refine (M4.out _).mono ?_; rintro e w1 ⟨rfl, rfl⟩
    go_wp2_with fail
    refine (M5.out _).mono ?_; rintro e w1 ⟨rfl, rfl⟩
    go_wp2_with fail
    refine (fixed_val _).mono ?_; rintro e w1 ⟨rfl, hb1⟩
    go_wp2_with fail
    go_ret
    exact ⟨rfl, hb1⟩

theorem WordProducts_walk (a0 a1 a2 : Int) (w : World) (w0 : (Lit.int .u64 a0).wf = true) (w1 : (Lit.int .u64 a1).wf = true) (w2 : (Lit.int .u8 a2).wf = true) :
    Calls Try.prog 6 #[.int .u64 a0, .int .u64 a1, .int .u8 a2] w fun e w' => e = .returned (.bool true) ∧ Below w.heap.size w w' := by
  obtain ⟨a, rfl, ha⟩ := u64_wf a0 w0
  obtain ⟨b, rfl, hb⟩ := u64_wf a1 w1
  obtain ⟨c, rfl, hc⟩ := u8_wf' a2 w2
  obtain ⟨f1, f2, f3, f4⟩ := mul_facts a c ha
  have cm : mulV b a = mulV a b := by unfold mulV; rw [Nat.mul_comm]
  have co : mulO b a = mulO a b := by unfold mulO; rw [Nat.mul_comm]
  exact products_core a b c (mulV a b) (mulV a c) (mulV a (c + 1)) (addV (mulV a c) a) (mulO a b) (mulO a c) (mulO a (c + 1)) (addO (mulV a c) a) w ha hb hc
    rfl rfl (Lib.hid cm.symm) (Lib.hid co.symm) rfl rfl rfl rfl rfl rfl f1 f4 (fun h => by unfold mulV; rw [if_pos (of_decide_eq_true h)]) f2 f3
end Go.Proofs.Yteelpgkpmngnmaa.L
