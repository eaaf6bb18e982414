/- TtlLeast: whatever the numbers, the law answers true. No condition. -/
import Derived.Test.YtgnmhepneahhdaaTl
namespace Go.Proofs.Ytgnmhepneahhdaa.L
open Go.RowKit Go.Proofs.Ytgnmhepneahhdaa.G
set_option linter.unusedVariables false
set_option linter.unusedSimpArgs false

set_option maxRecDepth 100000 in
set_option maxHeartbeats 1000000 in
theorem least_nn (a b : Nat) (k j : Int) (w : World) (HA : Hid (∀ w, Calls Try.prog 14 #[.float .f64 a] w fun e w' => e = .returned (.int .i64 k) ∧ w = w')) (HB : Hid (∀ w, Calls Try.prog 14 #[.float .f64 b] w fun e w' => e = .returned (.int .i64 j) ∧ w = w')) (k0 : (k == 0) = true) (j0 : (j == 0) = true) :
    Calls Try.prog 8 #[.float .f64 a, .float .f64 b] w fun e w' => e = .returned (.bool true) ∧ Below w.heap.size w w' := by
  have L1 := Lib.hid (fun W => Least_n a b k W k0 HA)
  have L2 := Lib.hid (fun W => Least_n b a j W j0 HB)
  go_enter Try.func8, Try.ntmps8
  go_wp2_with fail
  refine (L1.out _).mono ?_; rintro e w1 ⟨rfl, rfl⟩
  go_wp2_with fail
  refine (L2.out _).mono ?_; rintro e w1 ⟨rfl, rfl⟩
  go_wp2_with fail
  refine (HA.out _).mono ?_; rintro e w1 ⟨rfl, rfl⟩
  go_wp2_with fail
  refine (HB.out _).mono ?_; rintro e w1 ⟨rfl, rfl⟩
  go_wp2_with fail
  refine (HB.out _).mono ?_; rintro e w1 ⟨rfl, rfl⟩
  go_wp2_with fail
  refine (HA.out _).mono ?_; rintro e w1 ⟨rfl, rfl⟩
  go_wp2_with fail
  refine (fixed_val _).mono ?_; rintro e w1 ⟨rfl, rfl⟩
  go_wp2_with fail
  go_ret
  exact ⟨rfl, Below.refl _ _⟩

set_option maxRecDepth 100000 in
set_option maxHeartbeats 1000000 in
theorem least_ns (a b : Nat) (k j : Int) (w : World) (HA : Hid (∀ w, Calls Try.prog 14 #[.float .f64 a] w fun e w' => e = .returned (.int .i64 k) ∧ w = w')) (HB : Hid (∀ w, Calls Try.prog 14 #[.float .f64 b] w fun e w' => e = .returned (.int .i64 j) ∧ w = w')) (k0 : (k == 0) = true) (j0 : (j == 0) = false) (jne : (j != 0) = true) (oab : (FloatKind.f64.format.order a b = none)) (oba : (FloatKind.f64.format.order b a = none)) (obb : (FloatKind.f64.format.order b b = some .eq)) :
    Calls Try.prog 8 #[.float .f64 a, .float .f64 b] w fun e w' => e = .returned (.bool true) ∧ Below w.heap.size w w' := by
  have L1 := Lib.hid (fun W => Least_n a b k W k0 HA)
  have L2 := Lib.hid (fun W => Least_a b a j W j0 (by rw [oab]; rfl) HB)
  go_enter Try.func8, Try.ntmps8
  go_wp2_with fail
  refine (L1.out _).mono ?_; rintro e w1 ⟨rfl, rfl⟩
  go_wp2_with fail
  refine (L2.out _).mono ?_; rintro e w1 ⟨rfl, rfl⟩
  go_wp2_with fail
  refine (HA.out _).mono ?_; rintro e w1 ⟨rfl, rfl⟩
  go_wp2_with fail
  refine (HB.out _).mono ?_; rintro e w1 ⟨rfl, rfl⟩
  go_wp2_with fail
  refine (HA.out _).mono ?_; rintro e w1 ⟨rfl, rfl⟩
  go_wp2_with fail
  refine (HB.out _).mono ?_; rintro e w1 ⟨rfl, rfl⟩
  go_wp2_with fail
  refine (fixed_val _).mono ?_; rintro e w1 ⟨rfl, rfl⟩
  go_wp2_with fail
  go_ret
  exact ⟨rfl, Below.refl _ _⟩

set_option maxRecDepth 100000 in
set_option maxHeartbeats 1000000 in
theorem least_sn (a b : Nat) (k j : Int) (w : World) (HA : Hid (∀ w, Calls Try.prog 14 #[.float .f64 a] w fun e w' => e = .returned (.int .i64 k) ∧ w = w')) (HB : Hid (∀ w, Calls Try.prog 14 #[.float .f64 b] w fun e w' => e = .returned (.int .i64 j) ∧ w = w')) (k0 : (k == 0) = false) (j0 : (j == 0) = true) (kne : (k != 0) = true) (oab : (FloatKind.f64.format.order a b = none)) (oba : (FloatKind.f64.format.order b a = none)) (oaa : (FloatKind.f64.format.order a a = some .eq)) :
    Calls Try.prog 8 #[.float .f64 a, .float .f64 b] w fun e w' => e = .returned (.bool true) ∧ Below w.heap.size w w' := by
  have L1 := Lib.hid (fun W => Least_a a b k W k0 (by rw [oba]; rfl) HA)
  have L2 := Lib.hid (fun W => Least_n b a j W j0 HB)
  go_enter Try.func8, Try.ntmps8
  go_wp2_with fail
  refine (L1.out _).mono ?_; rintro e w1 ⟨rfl, rfl⟩
  go_wp2_with fail
  refine (L2.out _).mono ?_; rintro e w1 ⟨rfl, rfl⟩
  go_wp2_with fail
  refine (HA.out _).mono ?_; rintro e w1 ⟨rfl, rfl⟩
  go_wp2_with fail
  refine (HA.out _).mono ?_; rintro e w1 ⟨rfl, rfl⟩
  go_wp2_with fail
  refine (HB.out _).mono ?_; rintro e w1 ⟨rfl, rfl⟩
  go_wp2_with fail
  refine (HA.out _).mono ?_; rintro e w1 ⟨rfl, rfl⟩
  go_wp2_with fail
  refine (fixed_val _).mono ?_; rintro e w1 ⟨rfl, rfl⟩
  go_wp2_with fail
  go_ret
  exact ⟨rfl, Below.refl _ _⟩

set_option maxRecDepth 100000 in
set_option maxHeartbeats 1000000 in
theorem least_lt (a b : Nat) (k j : Int) (w : World) (HA : Hid (∀ w, Calls Try.prog 14 #[.float .f64 a] w fun e w' => e = .returned (.int .i64 k) ∧ w = w')) (HB : Hid (∀ w, Calls Try.prog 14 #[.float .f64 b] w fun e w' => e = .returned (.int .i64 j) ∧ w = w')) (k0 : (k == 0) = false) (j0 : (j == 0) = false) (oab : (FloatKind.f64.format.order a b = some .lt)) (oba : (FloatKind.f64.format.order b a = some .gt)) (oaa : (FloatKind.f64.format.order a a = some .eq)) (obb : (FloatKind.f64.format.order b b = some .eq)) :
    Calls Try.prog 8 #[.float .f64 a, .float .f64 b] w fun e w' => e = .returned (.bool true) ∧ Below w.heap.size w w' := by
  have L1 := Lib.hid (fun W => Least_a a b k W k0 (by rw [oba]; rfl) HA)
  have L2 := Lib.hid (fun W => Least_b b a j W j0 (by rw [oab]; rfl) HB)
  go_enter Try.func8, Try.ntmps8
  go_wp2_with fail
  refine (L1.out _).mono ?_; rintro e w1 ⟨rfl, rfl⟩
  go_wp2_with fail
  refine (L2.out _).mono ?_; rintro e w1 ⟨rfl, rfl⟩
  go_wp2_with fail
  refine (HA.out _).mono ?_; rintro e w1 ⟨rfl, rfl⟩
  go_wp2_with fail
  refine (HA.out _).mono ?_; rintro e w1 ⟨rfl, rfl⟩
  go_wp2_with fail
  refine (HB.out _).mono ?_; rintro e w1 ⟨rfl, rfl⟩
  go_wp2_with fail
  refine (fixed_val _).mono ?_; rintro e w1 ⟨rfl, rfl⟩
  go_wp2_with fail
  go_ret
  exact ⟨rfl, Below.refl _ _⟩

set_option maxRecDepth 100000 in
set_option maxHeartbeats 1000000 in
theorem least_eq (a b : Nat) (k j : Int) (w : World) (HA : Hid (∀ w, Calls Try.prog 14 #[.float .f64 a] w fun e w' => e = .returned (.int .i64 k) ∧ w = w')) (HB : Hid (∀ w, Calls Try.prog 14 #[.float .f64 b] w fun e w' => e = .returned (.int .i64 j) ∧ w = w')) (k0 : (k == 0) = false) (j0 : (j == 0) = false) (oab : (FloatKind.f64.format.order a b = some .eq)) (oba : (FloatKind.f64.format.order b a = some .eq)) (oaa : (FloatKind.f64.format.order a a = some .eq)) (obb : (FloatKind.f64.format.order b b = some .eq)) :
    Calls Try.prog 8 #[.float .f64 a, .float .f64 b] w fun e w' => e = .returned (.bool true) ∧ Below w.heap.size w w' := by
  have L1 := Lib.hid (fun W => Least_a a b k W k0 (by rw [oba]; rfl) HA)
  have L2 := Lib.hid (fun W => Least_a b a j W j0 (by rw [oab]; rfl) HB)
  go_enter Try.func8, Try.ntmps8
  go_wp2_with fail
  refine (L1.out _).mono ?_; rintro e w1 ⟨rfl, rfl⟩
  go_wp2_with fail
  refine (L2.out _).mono ?_; rintro e w1 ⟨rfl, rfl⟩
  go_wp2_with fail
  refine (HA.out _).mono ?_; rintro e w1 ⟨rfl, rfl⟩
  go_wp2_with fail
  refine (HA.out _).mono ?_; rintro e w1 ⟨rfl, rfl⟩
  go_wp2_with fail
  refine (HB.out _).mono ?_; rintro e w1 ⟨rfl, rfl⟩
  go_wp2_with fail
  refine (fixed_val _).mono ?_; rintro e w1 ⟨rfl, rfl⟩
  go_wp2_with fail
  go_ret
  exact ⟨rfl, Below.refl _ _⟩

set_option maxRecDepth 100000 in
set_option maxHeartbeats 1000000 in
theorem least_gt (a b : Nat) (k j : Int) (w : World) (HA : Hid (∀ w, Calls Try.prog 14 #[.float .f64 a] w fun e w' => e = .returned (.int .i64 k) ∧ w = w')) (HB : Hid (∀ w, Calls Try.prog 14 #[.float .f64 b] w fun e w' => e = .returned (.int .i64 j) ∧ w = w')) (k0 : (k == 0) = false) (j0 : (j == 0) = false) (oab : (FloatKind.f64.format.order a b = some .gt)) (oba : (FloatKind.f64.format.order b a = some .lt)) (oaa : (FloatKind.f64.format.order a a = some .eq)) (obb : (FloatKind.f64.format.order b b = some .eq)) :
    Calls Try.prog 8 #[.float .f64 a, .float .f64 b] w fun e w' => e = .returned (.bool true) ∧ Below w.heap.size w w' := by
  have L1 := Lib.hid (fun W => Least_b a b k W k0 (by rw [oba]; rfl) HA)
  have L2 := Lib.hid (fun W => Least_a b a j W j0 (by rw [oab]; rfl) HB)
  go_enter Try.func8, Try.ntmps8
  go_wp2_with fail
  refine (L1.out _).mono ?_; rintro e w1 ⟨rfl, rfl⟩
  go_wp2_with fail
  refine (L2.out _).mono ?_; rintro e w1 ⟨rfl, rfl⟩
  go_wp2_with fail
  refine (HA.out _).mono ?_; rintro e w1 ⟨rfl, rfl⟩
  go_wp2_with fail
  refine (HA.out _).mono ?_; rintro e w1 ⟨rfl, rfl⟩
  go_wp2_with fail
  refine (HB.out _).mono ?_; rintro e w1 ⟨rfl, rfl⟩
  go_wp2_with fail
  refine (fixed_val _).mono ?_; rintro e w1 ⟨rfl, rfl⟩
  go_wp2_with fail
  go_ret
  exact ⟨rfl, Below.refl _ _⟩

theorem TtlLeast_walk (a0 a1 : Nat) (w : World) (w0 : (Lit.float .f64 a0).wf = true) (w1 : (Lit.float .f64 a1).wf = true) :
    Calls Try.prog 8 #[.float .f64 a0, .float .f64 a1] w fun e w' => e = .returned (.bool true) ∧ Below w.heap.size w w' := by
  cases ha : nanB a0 with
  | true =>
    have HA := Lib.hid (fun w => Kind_nanany a0 w ha)
    cases hb : nanB a1 with
    | true => exact least_nn a0 a1 0 0 w HA (Lib.hid (fun w => Kind_nanany a1 w hb)) rfl rfl
    | false =>
      obtain ⟨j, hj, HB⟩ := Kind_some a1 hb
      exact least_ns a0 a1 0 j w HA (Lib.hid HB) rfl hj (by rw [bne, hj]; rfl) (fo_nan _ _ (Or.inl ha)) (fo_nan _ _ (Or.inr ha)) (fo_self _ hb)
  | false =>
    obtain ⟨k, hk, HA⟩ := Kind_some a0 ha
    cases hb : nanB a1 with
    | true => exact least_sn a0 a1 k 0 w (Lib.hid HA) (Lib.hid (fun w => Kind_nanany a1 w hb)) hk rfl (by rw [bne, hk]; rfl) (fo_nan _ _ (Or.inr hb)) (fo_nan _ _ (Or.inl hb)) (fo_self _ ha)
    | false =>
      obtain ⟨j, hj, HB⟩ := Kind_some a1 hb
      obtain ⟨o, h1, h2⟩ := fo_some a0 a1 ha hb
      cases o with
      | lt => exact least_lt a0 a1 k j w (Lib.hid HA) (Lib.hid HB) hk hj h1 h2 (fo_self _ ha) (fo_self _ hb)
      | eq => exact least_eq a0 a1 k j w (Lib.hid HA) (Lib.hid HB) hk hj h1 h2 (fo_self _ ha) (fo_self _ hb)
      | gt => exact least_gt a0 a1 k j w (Lib.hid HA) (Lib.hid HB) hk hj h1 h2 (fo_self _ ha) (fo_self _ hb)
end Go.Proofs.Ytgnmhepneahhdaa.L
