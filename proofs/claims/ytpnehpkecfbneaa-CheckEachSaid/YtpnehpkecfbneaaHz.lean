/- A share of 1 of any number, as a contract. -/
import Derived.Test.YtpnehpkecfbneaaHy
import Derived.Test.YtpnehpkecfbneaaHg
namespace Go.Proofs.Ytpnehpkecfbneaa.G
open Go.RowKit
set_option linter.unusedVariables false
set_option linter.unusedSimpArgs false

def nanB (a : Nat) : Bool := (FloatKind.f64.format.read a).isNaN
theorem ord_none (x y : Ieee.Datum) : x.order y = none ↔ x.isNaN = true ∨ y.isNaN = true := by
  cases x <;> cases y <;> simp [Ieee.Datum.order, Ieee.Datum.isNaN]
theorem ord_swap (x y : Ieee.Datum) : y.order x = (x.order y).map Ordering.swap := by
  cases x with
  | nan s n => cases y <;> simp [Ieee.Datum.order]
  | infinity s =>
    cases y with
    | nan t n => simp [Ieee.Datum.order]
    | infinity t => cases s <;> cases t <;> rfl
    | number t n j => cases s <;> simp [Ieee.Datum.order]
  | number s m i =>
    cases y with
    | nan t n => simp [Ieee.Datum.order]
    | infinity t => cases t <;> simp [Ieee.Datum.order]
    | number t n j =>
      simp only [Ieee.Datum.order, Option.map_some, Option.some.injEq]
      rw [Int.min_comm j i]
      exact Std.OrientedCmp.eq_swap
theorem ord_self (x : Ieee.Datum) (h : x.isNaN = false) : x.order x = some .eq := by
  cases x with
  | nan s n => simp [Ieee.Datum.isNaN] at h
  | infinity s => cases s <;> rfl
  | number s m i =>
    simp only [Ieee.Datum.order, Option.some.injEq]
    exact Std.ReflCmp.compare_self
theorem fo_nan (a b : Nat) (h : nanB a = true ∨ nanB b = true) : FloatKind.f64.format.order a b = none := (ord_none _ _).2 h
theorem fo_self (a : Nat) (h : nanB a = false) : FloatKind.f64.format.order a a = some .eq := ord_self _ h
theorem fo_some (a b : Nat) (ha : nanB a = false) (hb : nanB b = false) : ∃ o, FloatKind.f64.format.order a b = some o ∧ FloatKind.f64.format.order b a = some o.swap := by
  have hs := ord_swap (FloatKind.f64.format.read a) (FloatKind.f64.format.read b)
  cases ho : FloatKind.f64.format.order a b with
  | none =>
    rcases (ord_none _ _).1 ho with h | h
    · unfold nanB at ha; rw [ha] at h; cases h
    · unfold nanB at hb; rw [hb] at h; cases h
  | some o =>
    refine ⟨o, rfl, ?_⟩
    refine hs.trans ?_
    have : (FloatKind.f64.format.read a).order (FloatKind.f64.format.read b) = some o := ho
    rw [this]; rfl
theorem beq_tf (x : Bool) : x = true ∨ x = false := by cases x <;> simp

set_option maxRecDepth 100000 in
theorem Kind_nanany (a : Nat) (w : World) (h : nanB a = true) : Calls Try.prog 31 #[.float .f64 a] w fun e w' => e = .returned (.int .i64 0) ∧ w = w' := by
  have o1 := fo_nan a a (Or.inl h)
  clear h
  go_enter Try.func31, Try.ntmps31
  go_wp2
  go_ret
  exact ⟨rfl, rfl⟩

set_option maxRecDepth 100000 in
set_option maxHeartbeats 1000000 in
theorem Kind_some (a : Nat) (h : nanB a = false) : ∃ k : Int, ((FloatKind.f64.format.order a 0 == some .lt) = true → k < 3) ∧ ∀ w, Calls Try.prog 31 #[.float .f64 a] w fun e w' => e = .returned (.int .i64 k) ∧ w = w' := by
  have o1 := fo_self a h
  clear h
  obtain ⟨na, ng⟩ : ∃ na, ∀ W : World, (Op.unary .neg (.float .f64 a)).run Try.prog W = .ok (.float .f64 na) W := ⟨_, fun _ => rfl⟩
  have fb : ∀ W : World, (callFunc 30 #[.float .f64 a]).run Try.prog W = .ok (.value (.int .u64 (a : Int))) W := fun _ => by kernel_rfl
  rcases beq_tf (FloatKind.f64.format.order na 9218868437227405311 == some .gt) with q1 | q1
  · exact ⟨1, fun _ => by omega, fun w => by
      go_enter Try.func31, Try.ntmps31
      go_wp2
      go_ret
      exact ⟨rfl, rfl⟩⟩
  · rcases beq_tf (FloatKind.f64.format.order a 0 == some .lt) with q2 | q2
    · exact ⟨2, fun _ => by omega, fun w => by
        go_enter Try.func31, Try.ntmps31
        go_wp2
        go_ret
        exact ⟨rfl, rfl⟩⟩
    · rcases beq_tf (FloatKind.f64.format.order a 9218868437227405311 == some .gt) with q3 | q3
      · exact ⟨6, fun h => (by rw [q2] at h; cases h), fun w => by
          go_enter Try.func31, Try.ntmps31
          go_wp2
          go_ret
          exact ⟨rfl, rfl⟩⟩
      · rcases beq_tf (FloatKind.f64.format.order a 0 == some .gt) with q4 | q4
        · exact ⟨5, fun h => (by rw [q2] at h; cases h), fun w => by
            go_enter Try.func31, Try.ntmps31
            go_wp2
            go_ret
            exact ⟨rfl, rfl⟩⟩
        · by_cases q5 : wrap64 (a : Int) < 0
          · exact ⟨3, fun h => (by rw [q2] at h; cases h), fun w => by
              go_enter Try.func31, Try.ntmps31
              go_wp2
              go_ret
              exact ⟨rfl, rfl⟩⟩
          · exact ⟨4, fun h => (by rw [q2] at h; cases h), fun w => by
              go_enter Try.func31, Try.ntmps31
              go_wp2
              go_ret
              exact ⟨rfl, rfl⟩⟩

theorem nan_rung (x : Nat) (h : nanB x = false) : x % 9223372036854775808 ≤ 9218868437227405312 := by
  refine Classical.byContradiction fun hn => ?_
  have hr : ∃ s n, FloatKind.f64.format.read x = .nan s n := by
    show ∃ s n, Ieee.double.read x = .nan s n
    unfold Ieee.Format.read
    rw [c_sign, c_bin, c_inf, c_least]
    rw [if_neg (by omega), if_neg (by omega), if_neg (by omega)]
    exact ⟨_, _, rfl⟩
  obtain ⟨s, n, e⟩ := hr
  unfold nanB at h
  rw [e] at h
  cases h

set_option maxRecDepth 100000 in
theorem Share_low (x : Nat) (k : Int) (w : World) (hk3 : k < 3) (hk : Hid (∀ w, Calls Try.prog 31 #[.float .f64 x] w fun e w' => e = .returned (.int .i64 k) ∧ w = w')) :
    Calls Try.prog 26 #[.float .f64 x, .int .i64 1] w fun e w' => e = .returned (.tuple #[.int .i64 0, .int .i64 1]) ∧ w = w' := by
  have q : decide (k < 3) = true := decide_eq_true hk3
  go_enter Try.func26, Try.ntmps26
  go_wp2_with fail
  refine (hk.out _).mono ?_; rintro e w1 ⟨rfl, rfl⟩
  go_wp2
  go_ret2
  exact ⟨rfl, rfl⟩
set_option maxRecDepth 100000 in
theorem Share_high (x : Nat) (k : Int) (w : World) (hk3 : ¬ k < 3) (ho : (FloatKind.f64.format.order x 4607182418800017408 == some .gt) = true) (hk : Hid (∀ w, Calls Try.prog 31 #[.float .f64 x] w fun e w' => e = .returned (.int .i64 k) ∧ w = w')) :
    Calls Try.prog 26 #[.float .f64 x, .int .i64 1] w fun e w' => e = .returned (.tuple #[.int .i64 0, .int .i64 1]) ∧ w = w' := by
  have q : decide (k < 3) = false := decide_eq_false hk3
  go_enter Try.func26, Try.ntmps26
  go_wp2_with fail
  refine (hk.out _).mono ?_; rintro e w1 ⟨rfl, rfl⟩
  go_wp2
  go_ret2
  exact ⟨rfl, rfl⟩
set_option maxRecDepth 100000 in
theorem Share_mid (x fl : Nat) (k v : Int) (w : World) (hx : x ≤ 4607182418800017408) (hk3 : ¬ k < 3) (ho : (FloatKind.f64.format.order x 4607182418800017408 == some .gt) = false) (hk : Hid (∀ w, Calls Try.prog 31 #[.float .f64 x] w fun e w' => e = .returned (.int .i64 k) ∧ w = w'))
    (hf : ∀ W : World, (callFunc 37 #[.float .f64 x]).run Try.prog W = .ok (.value (.float .f64 fl)) W) (cv : ∀ W : World, (convert 22 3 (.float .f64 fl)).run Try.prog W = .ok (.int .i64 v) W) :
    Calls Try.prog 26 #[.float .f64 x, .int .i64 1] w fun e w' => e = .returned (.tuple #[.int .i64 v, .int .i64 0]) ∧ w = w' := by
  have q : decide (k < 3) = false := decide_eq_false hk3
  have ci : floatOfInt .f64 1 = 4607182418800017408 := by kernel_rfl
  have mu : ∀ W : World, (binOp .mul 22 (.float .f64 x) (.float .f64 4607182418800017408)).run Try.prog W = .ok (.float .f64 x) W := fun W => run_float_arith W .mul _ .f64 _ _ _ (mul_one_bits x hx)
  clear hx
  go_enter Try.func26, Try.ntmps26
  go_wp2_with fail
  refine (hk.out _).mono ?_; rintro e w1 ⟨rfl, rfl⟩
  go_wp2
  go_ret2
  exact ⟨rfl, rfl⟩

theorem Share_any (x : Nat) (hx : x < 18446744073709551616) : ∃ nS eS : Int, (eS = 0 ∨ eS = 1) ∧ ∀ W, Calls Try.prog 26 #[.float .f64 x, .int .i64 1] W fun e w' => e = .returned (.tuple #[.int .i64 nS, .int .i64 eS]) ∧ W = w' := by
  cases hn : nanB x with
  | true => exact ⟨0, 1, Or.inr rfl, fun W => Share_low x 0 W (by omega) (Lib.hid (fun w => Kind_nanany x w hn))⟩
  | false =>
    obtain ⟨k, h0, hk⟩ := Kind_some x hn
    by_cases hk3 : k < 3
    · exact ⟨0, 1, Or.inr rfl, fun W => Share_low x k W hk3 (Lib.hid hk)⟩
    · rcases beq_tf (FloatKind.f64.format.order x 4607182418800017408 == some .gt) with ho | ho
      · exact ⟨0, 1, Or.inr rfl, fun W => Share_high x k W hk3 ho (Lib.hid hk)⟩
      · have hr := nan_rung x hn
        by_cases hs : x < 9223372036854775808
        · by_cases h1 : x ≤ 4607182418800017408
          · obtain ⟨fl, hfl, hf⟩ := floor_run x h1
            rcases hfl with rfl | rfl
            · exact ⟨0, 0, Or.inl rfl, fun W => Share_mid x 0 k 0 W h1 hk3 ho (Lib.hid hk) hf (fun W => run_convert_float_int W _ _ .f64 .i64 _ _ (by kernel_rfl) Try.underlying3 (by kernel_rfl))⟩
            · exact ⟨1, 0, Or.inl rfl, fun W => Share_mid x 4607182418800017408 k 1 W h1 hk3 ho (Lib.hid hk) hf (fun W => run_convert_float_int W _ _ .f64 .i64 _ _ (by kernel_rfl) Try.underlying3 (by kernel_rfl))⟩
          · exfalso
            have := above_one x (by omega) (by omega)
            rw [this] at ho; cases ho
        · obtain ⟨r, rfl⟩ : ∃ r, x = 9223372036854775808 + r := ⟨x - 9223372036854775808, by omega⟩
          by_cases hr0 : r = 0
          · subst hr0
            exact ⟨0, 0, Or.inl rfl, fun W => Share_minus1 W⟩
          · exfalso
            have := below_zero r (by omega) (by omega)
            exact hk3 (h0 this)
end Go.Proofs.Ytpnehpkecfbneaa.G
