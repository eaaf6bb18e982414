/- The reference's sum of two numbers. -/
import Derived.Test.YtmbidannodelfaaTadd
import Derived.WalkKit
import Derived.Laws.Rows
namespace Go.Proofs.Ytmbidannodelfaa.G
open Go.RowKit Go.Proofs.Ytmbidannodelfaa.WordPlain
set_option linter.unusedVariables false
set_option linter.unusedSimpArgs false

theorem rMax_val (w : World) : Calls Try.prog 51 #[] w fun e w' => e = .returned (.int .u64 18446744073709551615) ∧ w = w' := by
  go_enter Try.func51, Try.ntmps51
  go_wp2_with fail
  go_ret
  exact ⟨rfl, rfl⟩

set_option maxRecDepth 100000 in
theorem rAdd_val (a b z : Nat) (o : Bool) (w : World) (ha : a < 18446744073709551616) (hb : b < 18446744073709551616) (hz : Hid (z = addV a b)) (ho : Hid (o = addO a b)) :
    Calls Try.prog 48 #[.int .u64 a, .int .u64 b] w fun e w' => e = .returned (.tuple #[.int .u64 z, .bool o]) ∧ w = w' := by
  by_cases h : 18446744073709551616 ≤ a + b
  · have e1 : z = 18446744073709551615 := by rw [hz.out]; unfold addV; rw [if_pos h]
    have e2 : o = true := by rw [ho.out]; unfold addO; exact decide_eq_true h
    subst e2
    have E1 := Lib.hid e1
    have hm : IntKind.u64.wrap (18446744073709551615 - (b : Int)) = 18446744073709551615 - (b : Int) := IntWalk.u64_in _ (by omega)
    have hd : decide ((a : Int) > 18446744073709551615 - (b : Int)) = true := decide_eq_true (by omega)
    clear e1
    go_enter Try.func48, Try.ntmps48
    go_wp2_with fail
    refine (rMax_val _).mono ?_; rintro e w1 ⟨rfl, rfl⟩
    go_wp2_with fail
    refine (rMax_val _).mono ?_; rintro e w1 ⟨rfl, rfl⟩
    go_wp2_with fail
    go_ret2
    exact ⟨by rw [E1.out]; rfl, rfl⟩
  · have e1 : z = a + b := by rw [hz.out]; unfold addV; rw [if_neg h]
    have e2 : o = false := by rw [ho.out]; unfold addO; exact decide_eq_false h
    subst e2
    have e3 : IntKind.u64.wrap ((a : Int) + (b : Int)) = (z : Int) := by
      rw [show (a : Int) + (b : Int) = (z : Int) from by omega]
      exact IntWalk.u64_in _ (by omega)
    clear e1
    go_enter Try.func48, Try.ntmps48
    go_wp2_with fail
    refine (rMax_val _).mono ?_; rintro e w1 ⟨rfl, rfl⟩
    go_wp2_with fail
    go_ret2
    exact ⟨by first | rfl | rw [e3], rfl⟩

end Go.Proofs.Ytmbidannodelfaa.G
