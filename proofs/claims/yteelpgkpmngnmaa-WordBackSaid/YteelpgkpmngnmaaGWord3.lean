/- The fixed calls of package word. -/
import Derived.Test.YteelpgkpmngnmaaGWord2
namespace Go.Proofs.Yteelpgkpmngnmaa.G
open Go.RowKit Go.Proofs.Yteelpgkpmngnmaa.WordPlain
set_option linter.unusedVariables false
set_option linter.unusedSimpArgs false

set_option maxRecDepth 100000 in
set_option maxHeartbeats 4000000 in
theorem fixed_val (w : World) : Calls Try.prog 20 #[] w fun e w' => e = .returned (.bool true) ∧ Below w.heap.size w w' := by
  have a1 := fun W => Add_val 18446744073709551615 1 18446744073709551615 true W (by omega) (by omega) (Lib.hid (by decide)) (Lib.hid (by decide))
  have a2 := fun W => Add_val 3 4 7 false W (by omega) (by omega) (Lib.hid (by decide)) (Lib.hid (by decide))
  have a3 := fun W => Mul_val 8589934592 8589934592 18446744073709551615 true W (by omega) (by omega) (Lib.hid (by decide)) (Lib.hid (by decide))
  have a4 := fun W => Mul_val 6 7 42 false W (by omega) (by omega) (Lib.hid (by decide)) (Lib.hid (by decide))
  have p1 := fun W => Put_val 258 2 W ⟨#[2, 1]⟩ (by omega) (Lib.hid (by decide))
  have p2 := fun W => Put_val 258 1 W ⟨#[2]⟩ (by omega) (Lib.hid (by decide))
  have p3 := fun W => Put_val 1 8 W ⟨#[1, 0, 0, 0, 0, 0, 0, 0]⟩ (by omega) (Lib.hid (by decide))
  have p4 := fun W => Put_val 9 (-1) W ⟨#[]⟩ (by omega) (Lib.hid (by decide))
  have g1 := fun W => Get_val ⟨#[2, 1]⟩ W 258 (Lib.hid (by decide))
  have g2 := fun W => Get_val ⟨#[]⟩ W 0 (Lib.hid (by decide))
  have l1 := fun W => Less_val 3 5 0 W (by omega) (Lib.hid (by decide))
  have l2 := fun W => Less_val 5 3 2 W (by omega) (Lib.hid (by decide))
  go_enter Try.func20, Try.ntmps20
  go_wp2_with fail
  refine (a1 _).mono ?_; rintro e w1 ⟨rfl, rfl⟩
  go_wp2_with fail
  refine (a2 _).mono ?_; rintro e w1 ⟨rfl, rfl⟩
  go_wp2_with fail
  refine (a3 _).mono ?_; rintro e w1 ⟨rfl, rfl⟩
  go_wp2_with fail
  refine (a4 _).mono ?_; rintro e w1 ⟨rfl, rfl⟩
  go_wp2_with fail
  refine (p1 _).mono ?_; rintro e w1 ⟨rfl, hb1⟩
  go_wp2_with fail
  refine (p2 _).mono ?_; rintro e w2 ⟨rfl, hb2⟩
  go_wp2_with fail
  refine (p3 _).mono ?_; rintro e w3 ⟨rfl, hb3⟩
  go_wp2_with fail
  refine (p4 _).mono ?_; rintro e w4 ⟨rfl, hb4⟩
  go_wp2_with fail
  refine (g1 _).mono ?_; rintro e w5 ⟨rfl, hb5⟩
  go_wp2_with fail
  refine (g2 _).mono ?_; rintro e w6 ⟨rfl, hb6⟩
  go_wp2_with fail
  refine (l1 _).mono ?_; rintro e w7 ⟨rfl, rfl⟩
  go_wp2_with fail
  refine (l2 _).mono ?_; rintro e w8 ⟨rfl, rfl⟩
  go_wp2_with fail
  go_ret
  exact ⟨rfl, below_step (below_step (below_step (below_step (below_step hb1 hb2) hb3) hb4) hb5) hb6⟩
end Go.Proofs.Yteelpgkpmngnmaa.G
