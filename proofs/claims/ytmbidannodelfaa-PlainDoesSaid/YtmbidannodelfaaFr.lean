/- What is whole of a number; a number times a whole one; ticks and shares, by bits. -/
import Derived.Test.YtmbidannodelfaaFq
namespace Go.Proofs.Ytmbidannodelfaa.F
open Ieee
set_option linter.unusedVariables false
set_option linter.unusedSimpArgs false

def D : Nat := 1074
theorem D_eq : D = 1074 := rfl
/-- what is whole of a number that is not below 0 -/
def fl (x : Nat) : Nat := val x / 2 ^ D
theorem pD : 0 < 2 ^ D := Nat.pow_pos (by omega)
theorem fl_mono {x y : Nat} (h : x ≤ y) : fl x ≤ fl y := Nat.div_le_div_right (val_le h)
theorem fl_of {x n : Nat} (h : val x = n * 2 ^ D) : fl x = n := by unfold fl; rw [h]; exact Nat.mul_div_cancel _ pD

theorem scale_div (q k e : Nat) : q * 2 ^ (k - e) / 2 ^ (e - k) = q * 2 ^ k / 2 ^ e := by
  by_cases h : k ≤ e
  · have e1 : k - e = 0 := by omega
    have e2 : e = (e - k) + k := by omega
    rw [e1, Nat.pow_zero, Nat.mul_one]
    conv => rhs; rw [e2, Nat.pow_add]
    exact (Nat.mul_div_mul_right _ _ (Nat.pow_pos (by omega))).symm
  · have e1 : e - k = 0 := by omega
    have e2 : k = (k - e) + e := by omega
    rw [e1, Nat.pow_zero, Nat.div_one]
    conv => rhs; rw [e2, Nat.pow_add, ← Nat.mul_assoc]
    exact (Nat.mul_div_cancel _ (Nat.pow_pos (by omega))).symm

theorem fl_line (k q : Nat) (hq : q ≤ 9007199254740992) (h : 4503599627370496 ≤ q ∨ k = 0) : fl (k * 4503599627370496 + q) = q * 2 ^ (k - D) / 2 ^ (D - k) := by
  unfold fl
  rw [val_line k q hq h, scale_div]

theorem cut_plain (way : Toward) (hw : way = .down ∨ way = .zero) (n d : Nat) : way.cut false n d = n / 2 ^ d := by
  have e : way.cut false n d = n / 2 ^ min d (n.log2 + 2) := by
    unfold Toward.cut
    simp only [Nat.one_shiftLeft]
    rcases hw with rfl | rfl <;> simp
  rw [e]
  by_cases h : d ≤ n.log2 + 2
  · rw [Nat.min_eq_left h]
  · rw [Nat.min_eq_right (by omega)]
    have h1 := Nat.lt_log2_self (n := n)
    have h2 : 2 ^ (n.log2 + 1) ≤ 2 ^ (n.log2 + 2) := Nat.pow_le_pow_right (by omega) (by omega)
    have h3 : 2 ^ (n.log2 + 2) ≤ 2 ^ d := Nat.pow_le_pow_right (by omega) (by omega)
    rw [Nat.div_eq_of_lt (by omega), Nat.div_eq_of_lt (by omega)]

theorem integral_num (way : Toward) (hw : way = .down ∨ way = .zero) (x : Nat) (hx : x < 9218868437227405312) : (Ieee.double.read x).integral way = .number false (fl x) 0 := by
  obtain ⟨k, q, e, hq, hk, hv, hk2, hr, _⟩ := read_num x hx
  rw [hr]
  simp only [Datum.integral, Datum.number.injEq, true_and, and_true]
  have e1 : (-1074 + (k : Int)).toNat = k - D := by rw [D_eq]; omega
  have e2 : (-(-1074 + (k : Int))).toNat = D - k := by rw [D_eq]; omega
  rw [e1, e2, cut_plain way hw, shift_eq, e, fl_line k q (by omega) hk]

theorem toInt_num (x : Nat) (hx : x < 9218868437227405312) : (Ieee.double.read x).toInt .zero = some (fl x : Int) := by
  unfold Datum.toInt
  rw [integral_num .zero (Or.inr rfl) x hx]
  simp [signed]

/-- the floor, by bits -/
def flb (x : Nat) : Nat := Ieee.double.nearest false (fl x) 0
theorem floor_num (x : Nat) (hx : x < 9218868437227405312) : Ieee.double.write ((Ieee.double.read x).integral .down) = flb x := by
  rw [integral_num .down (Or.inl rfl) x hx]; rfl
theorem whole_num (n : Nat) (hn : n < 9007199254740992) : ∃ r, Ieee.double.nearest false n 0 = r ∧ r < 9218868437227405312 ∧ val r = n * 2 ^ D := by
  obtain ⟨r, h1, h2, h3⟩ := nearest_small n D hn (by decide)
  have e : -1074 + (D : Int) = 0 := by decide
  rw [e] at h1
  exact ⟨r, h1, h2, h3⟩
theorem flb_num (x : Nat) (hx : x < 9218868437227405312) : flb x < 9218868437227405312 ∧ fl (flb x) = fl x := by
  unfold flb
  by_cases h : fl x < 9007199254740992
  · obtain ⟨r, h1, h2, h3⟩ := whole_num (fl x) h
    rw [h1]
    exact ⟨h2, fl_of h3⟩
  · obtain ⟨k, q, e, hq, hk, hv, hk2, hr, _⟩ := read_num x hx
    have hf := fl_line k q (by omega) hk
    rw [← e] at hf
    have hkD : D < k := by
      refine Classical.byContradiction fun hn => ?_
      have e1 : k - D = 0 := by omega
      rw [e1, Nat.pow_zero, Nat.mul_one] at hf
      have := Nat.div_le_self q (2 ^ (D - k))
      omega
    have e1 : D - k = 0 := by omega
    rw [e1, Nat.pow_zero, Nat.div_one] at hf
    have hs : Ieee.double.nearest false (fl x) 0 = x := by
      refine (nearest_same (fl x) q 0 (-1074 + (k : Int)) 0 0 (k - D) (by omega) (by rw [D_eq] at hkD ⊢; omega) ?_).trans (nearest_read k q x hx e hq hk)
      rw [hf, Nat.pow_zero, Nat.mul_one]
    rw [hs]
    exact ⟨hx, rfl⟩

/-! 1, and 2^64 -/
theorem val_one : val 4607182418800017408 = 1 * 2 ^ D := by
  obtain ⟨K, hK⟩ : ∃ K, K = 1022 := ⟨_, rfl⟩
  have := val_line K 4503599627370496 (by omega) (Or.inl (Nat.le_refl _))
  have e : K * 4503599627370496 + 4503599627370496 = 4607182418800017408 := by omega
  rw [e] at this
  rw [this, show (4503599627370496 : Nat) = 2 ^ 52 from by decide, ← Nat.pow_add, Nat.one_mul, hK]
  rw [show 52 + 1022 = D from rfl]
theorem val_big : val 4895412794951729152 = 18446744073709551616 * 2 ^ D := by
  obtain ⟨K, hK⟩ : ∃ K, K = 1086 := ⟨_, rfl⟩
  have := val_line K 4503599627370496 (by omega) (Or.inl (Nat.le_refl _))
  have e : K * 4503599627370496 + 4503599627370496 = 4895412794951729152 := by omega
  rw [e] at this
  rw [this, show (4503599627370496 : Nat) = 2 ^ 52 from by decide, show (18446744073709551616 : Nat) = 2 ^ 64 from by decide, ← Nat.pow_add, ← Nat.pow_add, hK]
  rw [show 52 + 1086 = 64 + D from rfl]
theorem fl_one : fl 4607182418800017408 = 1 := fl_of val_one
theorem fl_pos {x : Nat} (h : 4607182418800017408 ≤ x) : 1 ≤ fl x := by rw [← fl_one]; exact fl_mono h
theorem fl_none {x : Nat} (h : x < 4607182418800017408) : fl x = 0 := by
  have := val_lt h
  rw [val_one, Nat.one_mul] at this
  exact Nat.div_eq_of_lt this
theorem fl_big {x : Nat} (h : x < 4895412794951729152) : fl x < 18446744073709551616 := by
  have := val_lt h
  rw [val_big] at this
  exact (Nat.div_lt_iff_lt_mul pD).2 this

/-- the digits halved or doubled are what is whole -/
theorem fl_digits (x : Nat) (h : 4503599627370496 ≤ x) : fl x = (4503599627370496 + x % 4503599627370496) * 2 ^ (x / 4503599627370496 - 1075) / 2 ^ (1075 - x / 4503599627370496) := by
  obtain ⟨k, q, e, hq, hk, _, hb⟩ := line_of x
  have := fl_line k q (by omega) hk
  rw [← e] at this
  rw [this, (hb h).1, (hb h).2]
  have e1 : x / 4503599627370496 - 1 - D = x / 4503599627370496 - 1075 := by rw [D_eq]; omega
  have e2 : D - (x / 4503599627370496 - 1) = 1075 - x / 4503599627370496 := by rw [D_eq]; omega
  rw [e1, e2]

/-! products with whole numbers -/
def nb (n : Nat) : Nat := Ieee.double.nearest false n 0
theorem nb_num (n : Nat) (hn : n < 9007199254740992) : nb n < 9218868437227405312 ∧ val (nb n) = n * 2 ^ D ∧ fl (nb n) = n := by
  obtain ⟨r, h1, h2, h3⟩ := whole_num n hn
  unfold nb
  rw [h1]
  exact ⟨h2, h3, fl_of h3⟩
theorem nb_int (n : Nat) : floatOfInt .f64 (n : Int) = nb n := by
  unfold floatOfInt FloatKind.nearest FloatKind.encode nb
  have h1 : decide ((n : Int) < 0) = false := decide_eq_false (by omega)
  rw [h1, Int.natAbs_natCast]
  rfl
theorem nb_lt {n m : Nat} (h : n ≤ m) : nb n ≤ nb m := nearest_mono n m 0 0 0 0 0 (by omega) (by omega) (by simpa using h)

def mb (x n : Nat) : Nat := (Ieee.double.mul x (nb n)).getD 0
theorem mul_num (x n : Nat) (hx : x < 9218868437227405312) (hn : n < 9007199254740992) : Ieee.double.mul x (nb n) = some (mb x n) := by
  obtain ⟨k, q, e, hq, hk, hv, hk2, hr, _⟩ := read_num x hx
  obtain ⟨l, m, e', hq', hk', hv', hk2', hr', _⟩ := read_num (nb n) (nb_num n hn).1
  unfold mb Ieee.Format.mul
  rw [hr, hr']
  rfl
theorem mb_le (x y n : Nat) (h : x ≤ y) (hy : y < 9218868437227405312) (hn : n < 9007199254740992) : mb x n ≤ mb y n := by
  have hx : x < 9218868437227405312 := by omega
  obtain ⟨k, q, e, hq, hk, hv, hk2, hr, _⟩ := read_num x hx
  obtain ⟨k1, q1, e1, hq1, hk1, hv1, hk21, hr1, _⟩ := read_num y hy
  obtain ⟨l, m, e', hq', hk', hv', hk2', hr', _⟩ := read_num (nb n) (nb_num n hn).1
  unfold mb Ieee.Format.mul
  rw [hr, hr1, hr']
  show Ieee.double.nearest false (q * m) _ ≤ Ieee.double.nearest false (q1 * m) _
  refine nearest_mono _ _ _ _ (-1074 + (-1074 + (l : Int))) k k1 (by omega) (by omega) ?_
  have := val_le h
  rw [hv, hv1] at this
  have e1 : q * m * 2 ^ k = m * (q * 2 ^ k) := by rw [Nat.mul_comm q m, Nat.mul_assoc]
  have e2 : q1 * m * 2 ^ k1 = m * (q1 * 2 ^ k1) := by rw [Nat.mul_comm q1 m, Nat.mul_assoc]
  rw [e1, e2]
  exact Nat.mul_le_mul_left _ this
theorem mb_one (n : Nat) (hn : n < 9007199254740992) : mb 4607182418800017408 n = nb n := by
  have h := (nb_num n hn).1
  obtain ⟨l, m, e', hq', hk', hv', hk2', hr', _⟩ := read_num (nb n) h
  have h1 : Ieee.double.read 4607182418800017408 = .number false 4503599627370496 (-52) := by decide
  unfold mb Ieee.Format.mul
  rw [h1, hr']
  show Ieee.double.nearest false (4503599627370496 * m) (-52 + (-1074 + (l : Int))) = nb n
  rw [← nearest_read l m (nb n) h e' hq' hk']
  refine nearest_same _ _ _ _ (-52 + (-1074 + (l : Int))) 0 52 (by omega) (by omega) ?_
  have e : (2 : Nat) ^ 52 = 4503599627370496 := by decide
  rw [Nat.pow_zero, Nat.mul_one, e, Nat.mul_comm]
theorem mul_minus (n : Nat) (hn : n < 9007199254740992) : Ieee.double.mul 9223372036854775808 (nb n) = some 9223372036854775808 := by
  obtain ⟨l, m, e', hq', hk', hv', hk2', hr', _⟩ := read_num (nb n) (nb_num n hn).1
  have h1 : Ieee.double.read 9223372036854775808 = .number true 0 (-1074) := by decide
  unfold Ieee.Format.mul
  rw [h1, hr']
  simp only [Datum.product, Option.map_some, Ieee.Format.write, Nat.zero_mul, Ieee.Format.nearest, if_true]
  rfl
theorem mb_bound (x n : Nat) (hx : x ≤ 4607182418800017408) (hn : n < 9007199254740992) : mb x n ≤ nb n ∧ fl (mb x n) ≤ n := by
  have h := mb_le x _ n hx (by omega) hn
  rw [mb_one n hn] at h
  refine ⟨h, ?_⟩
  have := fl_mono h
  rw [(nb_num n hn).2.2] at this
  exact this

/-! turned round -/
theorem neg_bits (x : Nat) (hx : x < 18446744073709551616) : (x ^^^ 9223372036854775808) = if x < 9223372036854775808 then 9223372036854775808 + x else x - 9223372036854775808 := by
  have e : (9223372036854775808 : Nat) = 2 ^ 63 := by decide
  have h1 : (x ^^^ 9223372036854775808) % 9223372036854775808 = x % 9223372036854775808 := by
    rw [e, Nat.xor_mod_two_pow, Nat.mod_self, Nat.xor_zero]
  have h2 : (x ^^^ 9223372036854775808) / 9223372036854775808 = x / 9223372036854775808 ^^^ 1 := by
    have : (2 ^ 63 : Nat) / 2 ^ 63 = 1 := by decide
    rw [e, Nat.xor_div_two_pow, this]
  by_cases h : x < 9223372036854775808
  · rw [if_pos h]
    have h3 : x / 9223372036854775808 = 0 := by omega
    rw [h3] at h2
    have h4 : (0 ^^^ 1 : Nat) = 1 := by decide
    rw [h4] at h2
    omega
  · rw [if_neg h]
    have h3 : x / 9223372036854775808 = 1 := by omega
    rw [h3] at h2
    have h4 : (1 ^^^ 1 : Nat) = 0 := by decide
    rw [h4] at h2
    omega

/-! the document's answers -/
def kindB (x : Nat) : Nat :=
  if 9218868437227405312 < x % 9223372036854775808 then 0
  else if x = 18442240474082181120 then 1
  else if x = 9218868437227405312 then 6
  else if x = 9223372036854775808 then 3
  else if x = 0 then 4
  else if 9223372036854775808 ≤ x then 2 else 5
def timely (x : Nat) : Prop := 4607182418800017408 ≤ x ∧ x ≤ 9218868437227405312
instance (x : Nat) : Decidable (timely x) := inferInstanceAs (Decidable (_ ∧ _))
def tickE (x : Nat) : Nat := if timely x then 0 else 1
def tickV (x : Nat) : Nat := if timely x then (if 4895412794951729152 ≤ x then 18446744073709551615 else fl x) else 0
def shareable (x : Nat) (n : Int) : Prop := (x ≤ 4607182418800017408 ∨ x = 9223372036854775808) ∧ 0 ≤ n ∧ n ≤ 100000
instance (x : Nat) (n : Int) : Decidable (shareable x n) := inferInstanceAs (Decidable (_ ∧ _))
def shE (x : Nat) (n : Int) : Nat := if shareable x n then 0 else 1
def shV (x : Nat) (n : Int) : Nat := if shareable x n then (if x = 9223372036854775808 then 0 else fl (mb x n.toNat)) else 0
end Go.Proofs.Ytmbidannodelfaa.F
