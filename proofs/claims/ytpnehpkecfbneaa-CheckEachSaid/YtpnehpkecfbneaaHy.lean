/- A share of 1 of any number: it ends, with an error that hangs on the number alone. -/
import Derived.Test.YtpnehpkecfbneaaHx
import Derived.Test.YtpnehpkecfbneaaHk
import Derived.Test.YtpnehpkecfbneaaHc
namespace Go.Proofs.Ytpnehpkecfbneaa.G
open Go.RowKit Ieee
set_option linter.unusedVariables false
set_option linter.unusedSimpArgs false

theorem cut_down (m d : Nat) (hm : m < 9007199254740992) (hd : 52 ≤ d) : Toward.down.cut false m d = 0 ∨ Toward.down.cut false m d = 1 := by
  unfold Toward.cut
  simp only [Bool.false_and, Bool.toNat_false, Nat.add_zero, Nat.one_shiftLeft]
  by_cases h : d ≤ m.log2 + 2
  · rw [Nat.min_eq_left h]
    have h1 : 2 ^ 52 ≤ 2 ^ d := Nat.pow_le_pow_right (by omega) hd
    have h2 : m / 2 ^ d < 2 := Nat.div_lt_of_lt_mul (by
      have : (2 ^ 52 : Nat) = 4503599627370496 := by decide
      omega)
    generalize m / 2 ^ d = q at h2 ⊢
    omega
  · rw [Nat.min_eq_right (by omega)]
    left
    apply Nat.div_eq_of_lt
    have h1 := Nat.lt_log2_self (n := m)
    have h2 : 2 ^ (m.log2 + 1) ≤ 2 ^ (m.log2 + 2) := Nat.pow_le_pow_right (by omega) (by omega)
    omega

theorem floor_bits (x : Nat) (hx : x ≤ 4607182418800017408) : ∃ fl, (fl = 0 ∨ fl = 4607182418800017408) ∧ ∃ m e, Ieee.double.read x = .number false m e ∧ Ieee.double.write ((Datum.number false m e).integral .down) = fl := by
  have key : ∀ (m : Nat) (e : Int), m < 9007199254740992 → e ≤ -52 → ∃ fl, (fl = 0 ∨ fl = 4607182418800017408) ∧ Ieee.double.write ((Datum.number false m e).integral .down) = fl := by
    intro m e hm he
    simp only [Datum.integral]
    have t1 : e.toNat = 0 := by omega
    rw [t1, Nat.shiftLeft_zero]
    rcases cut_down m (-e).toNat hm (by omega) with h | h
    · rw [h]; exact ⟨0, Or.inl rfl, by decide⟩
    · rw [h]; exact ⟨4607182418800017408, Or.inr rfl, by decide⟩
  rw [read_pos x (by omega)]
  split
  · rename_i h
    obtain ⟨fl, h1, h2⟩ := key x (-1074) (by omega) (by omega)
    exact ⟨fl, h1, x, -1074, rfl, h2⟩
  · rename_i h
    have hmod : x % 4503599627370496 < 4503599627370496 := Nat.mod_lt _ (by decide)
    have hdiv : x / 4503599627370496 ≤ 1023 := by omega
    obtain ⟨fl, h1, h2⟩ := key (4503599627370496 + x % 4503599627370496) (-1074 + (x / 4503599627370496 - 1 : Nat)) (by omega) (by omega)
    exact ⟨fl, h1, _, _, rfl, h2⟩

theorem floor_run (x : Nat) (hx : x ≤ 4607182418800017408) : ∃ fl, (fl = 0 ∨ fl = 4607182418800017408) ∧ ∀ W : World, (callFunc 37 #[.float .f64 x]).run Try.prog W = .ok (.value (.float .f64 fl)) W := by
  obtain ⟨fl, h1, m, e, h2, h3⟩ := floor_bits x hx
  refine ⟨fl, h1, fun W => ?_⟩
  rw [run_callFunc_extern Try.func37 (by kernel_rfl) (by kernel_rfl) (by kernel_rfl) (e := Extern.MathFloor.toIntegral "math.archFloor" .down) (by kernel_rfl)]
  have h4 : FloatKind.f64.decode x = .number false m e := h2
  have h5 : FloatKind.f64.encode ((Datum.number false m e).integral .down) = fl := h3
  show (Sem.run _ (Extern.MathFloor.toIntegral.match_1 (fun _ => Sem Value) (FloatKind.f64.decode x) _ _) W).andThen _ = _
  rw [h4]
  rw [← h5]
  rfl

/-! how the others stand to 0 and to 1 -/
theorem compare_lt_of {a b : Int} (h : a < b) : compare a b = .lt := by
  show compareOfLessAndEq a b = .lt
  unfold compareOfLessAndEq
  rw [if_pos h]
theorem compare_gt_of {a b : Int} (h : b < a) : compare a b = .gt := by
  show compareOfLessAndEq a b = .gt
  unfold compareOfLessAndEq
  rw [if_neg (by omega), if_neg (by omega)]
theorem sgn_pos (m k : Nat) (h : 0 < m) : 0 < m <<< k := by rw [Nat.shiftLeft_eq]; exact Nat.mul_pos h (Nat.pow_pos (by omega))
theorem below_zero (r : Nat) (h0 : 0 < r) (hr : r ≤ 9218868437227405312) : (FloatKind.f64.format.order (9223372036854775808 + r) 0 == some .lt) = true := by
  have key : ∀ (m : Nat) (e : Int), 0 < m → -1074 ≤ e → (Datum.number true m e).order (.number false 0 (-1074)) = some .lt := by
    intro m e hm he
    simp only [Datum.order, Option.some.injEq]
    have hp := sgn_pos m (e - min e (-1074)).toNat hm
    have e1 : signed true m (e - min e (-1074)).toNat = -((m <<< (e - min e (-1074)).toNat : Nat) : Int) := rfl
    have e2 : signed false 0 (-1074 - min e (-1074)).toNat = 0 := by unfold signed; simp
    rw [e1, e2]
    exact compare_lt_of (by omega)
  have hz : FloatKind.f64.format.order (9223372036854775808 + r) 0 = (Ieee.double.read (9223372036854775808 + r)).order (Ieee.double.read 0) := rfl
  rw [hz, read_zero]
  by_cases hi : r = 9218868437227405312
  · subst hi; rfl
  · rw [read_neg r (by omega)]
    split
    · rw [key r (-1074) h0 (by omega)]; rfl
    · rw [key _ _ (by omega) (by omega)]; rfl
theorem above_one (x : Nat) (h1 : 4607182418800017408 < x) (hx : x ≤ 9218868437227405312) : (FloatKind.f64.format.order x 4607182418800017408 == some .gt) = true := by
  have hz : FloatKind.f64.format.order x 4607182418800017408 = (Ieee.double.read x).order (Ieee.double.read 4607182418800017408) := rfl
  rw [hz, read_one]
  by_cases hi : x = 9218868437227405312
  · subst hi; rfl
  · rw [read_pos x (by omega)]
    rw [if_neg (by omega)]
    obtain ⟨m, hm⟩ : ∃ m, m = 4503599627370496 + x % 4503599627370496 := ⟨_, rfl⟩
    obtain ⟨d, hd⟩ : ∃ d, d = x / 4503599627370496 := ⟨_, rfl⟩
    rw [← hm, ← hd]
    have hdm := Nat.div_add_mod x 4503599627370496
    have hmod : x % 4503599627370496 < 4503599627370496 := Nat.mod_lt _ (by decide)
    have hd1 : 1023 ≤ d := by omega
    simp only [Datum.order]
    have hmin : min (-1074 + ((d - 1 : Nat) : Int)) (-52) = -52 := by omega
    rw [hmin]
    have e2 : signed false 4503599627370496 (-52 - -52).toNat = 4503599627370496 := rfl
    have e1 : signed false m (-1074 + ((d - 1 : Nat) : Int) - -52).toNat = ((m <<< (d - 1023) : Nat) : Int) := by
      have : (-1074 + ((d - 1 : Nat) : Int) - -52).toNat = d - 1023 := by omega
      rw [this]; rfl
    rw [e1, e2, Nat.shiftLeft_eq]
    have hlt : (4503599627370496 : Int) < ((m * 2 ^ (d - 1023) : Nat) : Int) := by
      by_cases hd2 : d = 1023
      · rw [hd2]; simp; omega
      · have h2 : 2 ≤ 2 ^ (d - 1023) := by
          have : 2 ^ 1 ≤ 2 ^ (d - 1023) := Nat.pow_le_pow_right (by omega) (by omega)
          simpa using this
        have h3 : m * 2 ≤ m * 2 ^ (d - 1023) := Nat.mul_le_mul_left _ h2
        omega
    rw [compare_gt_of hlt]
    rfl
end Go.Proofs.Ytpnehpkecfbneaa.G
