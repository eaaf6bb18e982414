/- Numbers from 0 to 1, bit by bit: times 1 they are what they are; their floor is 0 or 1; the others. -/
import Derived.Test.YtpnehpkecfbneaaGMisc
import Derived.Laws.FloatArith
namespace Go.Proofs.Ytpnehpkecfbneaa.G
open Ieee
set_option linter.unusedVariables false
set_option linter.unusedSimpArgs false

abbrev BB : Nat := 4503599627370496
theorem c_sign : Ieee.double.signWeight = 9223372036854775808 := by decide
theorem c_bin : Ieee.double.binade = 4503599627370496 := by decide
theorem c_inf : Ieee.double.infRung = 9218868437227405312 := by decide
theorem c_least : Ieee.double.leastPlace = -1074 := by decide
theorem c_frac : Ieee.double.fractionBits = 52 := by decide

theorem read_pos (x : Nat) (hx : x < 9218868437227405312) : Ieee.double.read x = if x < 4503599627370496 then .number false x (-1074) else .number false (4503599627370496 + x % 4503599627370496) (-1074 + (x / 4503599627370496 - 1 : Nat)) := by
  unfold Ieee.Format.read
  rw [c_sign, c_bin, c_inf, c_least]
  have h1 : x / 9223372036854775808 % 2 = 0 := by omega
  have h2 : x % 9223372036854775808 = x := by omega
  simp only [h1, h2]
  rw [if_pos hx]
  rfl
theorem read_neg (r : Nat) (hr : r < 9218868437227405312) : Ieee.double.read (9223372036854775808 + r) = if r < 4503599627370496 then .number true r (-1074) else .number true (4503599627370496 + r % 4503599627370496) (-1074 + (r / 4503599627370496 - 1 : Nat)) := by
  unfold Ieee.Format.read
  rw [c_sign, c_bin, c_inf, c_least]
  have h1 : (9223372036854775808 + r) / 9223372036854775808 % 2 = 1 := by omega
  have h2 : (9223372036854775808 + r) % 9223372036854775808 = r := by omega
  simp only [h1, h2]
  rw [if_pos hr]
  rfl
theorem read_one : Ieee.double.read 4607182418800017408 = .number false 4503599627370496 (-52) := by decide
theorem read_zero : Ieee.double.read 0 = .number false 0 (-1074) := by decide

theorem log2_mul (m : Nat) (h : m ≠ 0) : (m * 4503599627370496).log2 = m.log2 + 52 := by
  have e : (4503599627370496 : Nat) = 2 ^ 52 := by decide
  rw [e]
  have hb : 2 ^ (m.log2 + 52) ≤ m * 2 ^ 52 ∧ m * 2 ^ 52 < 2 ^ (m.log2 + 52 + 1) := by
    have h1 := Nat.log2_self_le h
    have h2 := Nat.lt_log2_self (n := m)
    constructor
    · rw [Nat.pow_add]; exact Nat.mul_le_mul_right _ h1
    · rw [show m.log2 + 52 + 1 = (m.log2 + 1) + 52 from by omega, Nat.pow_add]
      exact Nat.mul_lt_mul_of_pos_right h2 (by decide)
  have hne : m * 2 ^ 52 ≠ 0 := Nat.mul_ne_zero h (by decide)
  exact (Nat.log2_eq_iff hne).2 hb

theorem cut_exact (m L : Nat) (hL : 52 ≤ L) (h : (m * 4503599627370496).log2 = L) : Toward.even.cut false (m * 4503599627370496) 52 = m := by
  unfold Toward.cut
  have e1 : (1 <<< min 52 ((m * 4503599627370496).log2 + 2) : Nat) = 4503599627370496 := by
    rw [h, Nat.min_eq_left (by omega)]; decide
  simp only [e1]
  have e2 : m * 4503599627370496 / 4503599627370496 = m := Nat.mul_div_cancel _ (by decide)
  have e3 : m * 4503599627370496 % 4503599627370496 = 0 := Nat.mul_mod_left _ _
  rw [e2, e3]
  simp

theorem nearest_exact (m : Nat) (e : Int) (x : Nat) (hm : m ≠ 0) (hlast : max (e + -52 + ((m.log2 + 52 : Nat) : Int) - 52) (-1074) = e) (hx : (e - -1074).toNat * 4503599627370496 + m = x) (hxi : x ≤ 9218868437227405312) :
    Ieee.double.nearest false (m * 4503599627370496) (e + -52) = x := by
  unfold Ieee.Format.nearest
  have hne : m * 4503599627370496 ≠ 0 := Nat.mul_ne_zero hm (by decide)
  rw [if_neg hne]
  simp only [c_frac, c_least, c_bin, c_inf]
  rw [log2_mul m hm]
  have hl : max (e + -52 + ((m.log2 + 52 : Nat) : Int) - ((52 : Nat) : Int)) (-1074) = e := hlast
  rw [hl]
  have t1 : (e + -52 - e).toNat = 0 := by omega
  have t2 : (e - (e + -52)).toNat = 52 := by omega
  rw [t1, t2, Nat.shiftLeft_zero, cut_exact m _ (by omega) (log2_mul m hm), hx, Nat.min_eq_left hxi]
  rfl

theorem mul_one_bits (x : Nat) (hx : x ≤ 4607182418800017408) : Ieee.double.mul x 4607182418800017408 = some x := by
  unfold Ieee.Format.mul
  rw [read_one, read_pos x (by omega)]
  split
  · rename_i h
    by_cases h0 : x = 0
    · subst h0
      decide
    · simp only [Datum.product, Option.map_some, Option.some.injEq, Ieee.Format.write]
      have hlog : x.log2 < 52 := (Nat.log2_lt h0).2 h
      exact nearest_exact x (-1074) x h0 (by omega) (by omega) (by omega)
  · rename_i h
    obtain ⟨m, hm⟩ : ∃ m, m = 4503599627370496 + x % 4503599627370496 := ⟨_, rfl⟩
    rw [← hm]
    have hmod : x % 4503599627370496 < 4503599627370496 := Nat.mod_lt _ (by decide)
    have hdm := Nat.div_add_mod x 4503599627370496
    have hlog : m.log2 = 52 := (Nat.log2_eq_iff (by omega)).2 ⟨by show 4503599627370496 ≤ m; omega, by show m < 9007199254740992; omega⟩
    simp only [Datum.product, Option.map_some, Option.some.injEq, Ieee.Format.write]
    exact nearest_exact m _ x (by omega) (by rw [hlog]; omega) (by omega) (by omega)
end Go.Proofs.Ytpnehpkecfbneaa.G
