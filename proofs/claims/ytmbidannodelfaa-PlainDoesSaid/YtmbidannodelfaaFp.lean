/- Numbers of 64 bits, by their bits: how they stand to each other, what is nearest to a number, what is whole of them. -/
import Derived.Laws.FloatArith
namespace Go.Proofs.Ytmbidannodelfaa.F
open Ieee
set_option linter.unusedVariables false
set_option linter.unusedSimpArgs false

theorem c_sign : Ieee.double.signWeight = 9223372036854775808 := by decide
theorem c_bin : Ieee.double.binade = 4503599627370496 := by decide
theorem c_inf : Ieee.double.infRung = 9218868437227405312 := by decide
theorem c_least : Ieee.double.leastPlace = -1074 := by decide
theorem c_frac : Ieee.double.fractionBits = 52 := by decide

/-- a number's worth, in the least one's units -/
def val (r : Nat) : Nat := if r < 4503599627370496 then r else (4503599627370496 + r % 4503599627370496) * 2 ^ (r / 4503599627370496 - 1)

theorem val_line (k q : Nat) (hq : q ≤ 9007199254740992) (h : 4503599627370496 ≤ q ∨ k = 0) : val (k * 4503599627370496 + q) = q * 2 ^ k := by
  unfold val
  by_cases h0 : q < 4503599627370496
  · have hk : k = 0 := by omega
    subst hk
    rw [if_pos (by omega)]; simp
  · rw [if_neg (by omega)]
    by_cases h1 : q = 9007199254740992
    · have e1 : (k * 4503599627370496 + q) / 4503599627370496 - 1 = k + 1 := by omega
      have e2 : (k * 4503599627370496 + q) % 4503599627370496 = 0 := by omega
      rw [e1, e2, h1, Nat.pow_succ]
      generalize 2 ^ k = t
      omega
    · have e1 : (k * 4503599627370496 + q) / 4503599627370496 - 1 = k := by omega
      have e2 : 4503599627370496 + (k * 4503599627370496 + q) % 4503599627370496 = q := by omega
      rw [e1, e2]

/-- a rung as its line and its digits -/
theorem line_of (r : Nat) : ∃ k q, r = k * 4503599627370496 + q ∧ q < 9007199254740992 ∧ (4503599627370496 ≤ q ∨ k = 0) ∧ (r < 4503599627370496 → k = 0 ∧ q = r) ∧ (4503599627370496 ≤ r → q = 4503599627370496 + r % 4503599627370496 ∧ k = r / 4503599627370496 - 1) := by
  by_cases h : r < 4503599627370496
  · exact ⟨0, r, by omega, by omega, Or.inr rfl, fun _ => ⟨rfl, rfl⟩, fun h' => by omega⟩
  · refine ⟨r / 4503599627370496 - 1, 4503599627370496 + r % 4503599627370496, ?_, by omega, Or.inl (by omega), fun h' => by omega, fun _ => ⟨rfl, rfl⟩⟩
    omega

theorem val_succ (r : Nat) : val r < val (r + 1) := by
  obtain ⟨k, q, e, hq, hk, _⟩ := line_of r
  have e1 : r + 1 = k * 4503599627370496 + (q + 1) := by omega
  rw [e1, val_line k (q + 1) (by omega) (by omega), e, val_line k q (by omega) hk]
  exact Nat.mul_lt_mul_of_pos_right (by omega) (Nat.pow_pos (by omega))
theorem val_add (r d : Nat) : val r < val (r + d + 1) := by
  induction d with
  | zero => exact val_succ r
  | succ n ih => exact Nat.lt_trans ih (val_succ _)
theorem val_lt {r s : Nat} (h : r < s) : val r < val s := by
  have := val_add r (s - r - 1)
  have e : r + (s - r - 1) + 1 = s := by omega
  rw [e] at this; exact this
theorem val_le {r s : Nat} (h : r ≤ s) : val r ≤ val s := by
  rcases Nat.lt_or_eq_of_le h with h | h
  · exact Nat.le_of_lt (val_lt h)
  · rw [h]; exact Nat.le_refl _
theorem val_lt_iff {r s : Nat} : val r < val s ↔ r < s := ⟨fun h => Classical.byContradiction fun hn => by have := val_le (Nat.le_of_not_lt hn); omega, val_lt⟩
theorem val_zero : val 0 = 0 := by decide
theorem val_inj {r s : Nat} (h : val r = val s) : r = s := by
  rcases Nat.lt_trichotomy r s with h1 | h1 | h1
  · have := val_lt h1; omega
  · exact h1
  · have := val_lt h1; omega

theorem read_num (r : Nat) (hr : r < 9218868437227405312) : ∃ k q, r = k * 4503599627370496 + q ∧ q < 9007199254740992 ∧ (4503599627370496 ≤ q ∨ k = 0) ∧ val r = q * 2 ^ k ∧ k ≤ 2045 ∧
    Ieee.double.read r = .number false q (-1074 + (k : Int)) ∧ Ieee.double.read (9223372036854775808 + r) = .number true q (-1074 + (k : Int)) := by
  obtain ⟨k, q, e, hq, hk, ha, hb⟩ := line_of r
  refine ⟨k, q, e, hq, hk, (by rw [e]; exact val_line k q (by omega) hk), by omega, ?_, ?_⟩
  · unfold Ieee.Format.read
    rw [c_sign, c_bin, c_inf, c_least]
    have h1 : r / 9223372036854775808 % 2 = 0 := by omega
    have h2 : r % 9223372036854775808 = r := by omega
    simp only [h1, h2]
    by_cases h : r < 4503599627370496
    · rw [if_pos h, (ha h).1, (ha h).2]; rfl
    · rw [if_neg h, if_pos hr, (hb (by omega)).1, (hb (by omega)).2]; rfl
  · unfold Ieee.Format.read
    rw [c_sign, c_bin, c_inf, c_least]
    have h1 : (9223372036854775808 + r) / 9223372036854775808 % 2 = 1 := by omega
    have h2 : (9223372036854775808 + r) % 9223372036854775808 = r := by omega
    simp only [h1, h2]
    by_cases h : r < 4503599627370496
    · rw [if_pos h, (ha h).1, (ha h).2]; rfl
    · rw [if_neg h, if_pos hr, (hb (by omega)).1, (hb (by omega)).2]; rfl
theorem read_inf : Ieee.double.read 9218868437227405312 = .infinity false ∧ Ieee.double.read 18442240474082181120 = .infinity true := by decide
theorem read_nan (x : Nat) (h : 9218868437227405312 < x % 9223372036854775808) : (Ieee.double.read x).isNaN = true := by
  unfold Ieee.Format.read
  rw [c_sign, c_bin, c_inf, c_least]
  rw [if_neg (by omega), if_neg (by omega), if_neg (by omega)]
  rfl

/-! how two numbers stand -/
def key (x : Nat) : Int := if x < 9223372036854775808 then (x : Int) else 9223372036854775808 - (x : Int)

theorem shift_eq (m k : Nat) : m <<< k = m * 2 ^ k := Nat.shiftLeft_eq m k
theorem cmp_eq (a b : Int) : compare a b = if a < b then .lt else if a = b then .eq else .gt := rfl
theorem cmp_same {a b c d : Int} (h1 : a < b ↔ c < d) (h2 : a = b ↔ c = d) : compare a b = compare c d := by
  rw [cmp_eq, cmp_eq]
  by_cases h : a < b
  · rw [if_pos h, if_pos (h1.1 h)]
  · rw [if_neg h, if_neg (fun h' => h (h1.2 h'))]
    by_cases g : a = b
    · rw [if_pos g, if_pos (h2.1 g)]
    · rw [if_neg g, if_neg (fun h' => g (h2.2 h'))]

theorem order_num (s t : Bool) (r p : Nat) (hr : r < 9218868437227405312) (hp : p < 9218868437227405312) :
    Ieee.double.order (if s then 9223372036854775808 + r else r) (if t then 9223372036854775808 + p else p) = some (compare (if s then -(r : Int) else r) (if t then -(p : Int) else p)) := by
  obtain ⟨k, q, _, _, _, v1, _, a1, a2⟩ := read_num r hr
  obtain ⟨l, m, _, _, _, v2, _, b1, b2⟩ := read_num p hp
  have ha : Ieee.double.read (if s then 9223372036854775808 + r else r) = .number s q (-1074 + (k : Int)) := by cases s <;> simp [a1, a2]
  have hb : Ieee.double.read (if t then 9223372036854775808 + p else p) = .number t m (-1074 + (l : Int)) := by cases t <;> simp [b1, b2]
  unfold Ieee.Format.order
  rw [ha, hb]
  simp only [Datum.order, Option.some.injEq]
  obtain ⟨c, hc⟩ : ∃ c, c = min k l := ⟨_, rfl⟩
  have hbase : min (-1074 + (k : Int)) (-1074 + (l : Int)) = -1074 + (c : Int) := by omega
  rw [hbase]
  have t1 : (-1074 + (k : Int) - (-1074 + (c : Int))).toNat = k - c := by omega
  have t2 : (-1074 + (l : Int) - (-1074 + (c : Int))).toNat = l - c := by omega
  rw [t1, t2]
  have hC : 0 < 2 ^ c := Nat.pow_pos (by omega)
  have u1 : q * 2 ^ (k - c) * 2 ^ c = val r := by rw [v1, Nat.mul_assoc, ← Nat.pow_add]; congr 2; omega
  have u2 : m * 2 ^ (l - c) * 2 ^ c = val p := by rw [v2, Nat.mul_assoc, ← Nat.pow_add]; congr 2; omega
  unfold signed
  rw [shift_eq, shift_eq]
  generalize hu : q * 2 ^ (k - c) = u at u1
  generalize hv : m * 2 ^ (l - c) = v at u2
  have f1 : u < v ↔ r < p := by
    rw [← val_lt_iff (r := r) (s := p), ← u1, ← u2]
    exact ⟨fun h => Nat.mul_lt_mul_of_pos_right h hC, fun h => Nat.lt_of_mul_lt_mul_right h⟩
  have f1' : v < u ↔ p < r := by
    rw [← val_lt_iff (r := p) (s := r), ← u1, ← u2]
    exact ⟨fun h => Nat.mul_lt_mul_of_pos_right h hC, fun h => Nat.lt_of_mul_lt_mul_right h⟩
  have f2 : u = 0 ↔ r = 0 := by
    constructor
    · intro h; rw [h, Nat.zero_mul] at u1; exact val_inj (by rw [← u1, val_zero])
    · intro h; rw [h, val_zero] at u1; rcases Nat.mul_eq_zero.1 u1 with h | h <;> omega
  have f3 : v = 0 ↔ p = 0 := by
    constructor
    · intro h; rw [h, Nat.zero_mul] at u2; exact val_inj (by rw [← u2, val_zero])
    · intro h; rw [h, val_zero] at u2; rcases Nat.mul_eq_zero.1 u2 with h | h <;> omega
  apply cmp_same <;> cases s <;> cases t <;> simp only [if_true, if_false, Bool.false_eq_true] <;> omega

theorem order_key (x y : Nat) (hx : x < 18446744073709551616) (hy : y < 18446744073709551616) (hx1 : x % 9223372036854775808 ≤ 9218868437227405312) (hy1 : y % 9223372036854775808 ≤ 9218868437227405312) :
    Ieee.double.order x y = some (compare (key x) (key y)) := by
  have dec : ∀ z : Nat, z < 18446744073709551616 → z % 9223372036854775808 ≤ 9218868437227405312 → ∃ (s : Bool) (r : Nat), z = (if s then 9223372036854775808 + r else r) ∧ r ≤ 9218868437227405312 ∧ key z = (if s then -(r : Int) else r) := by
    intro z h1 h2
    by_cases h : z < 9223372036854775808
    · exact ⟨false, z, rfl, by omega, by unfold key; rw [if_pos h]; rfl⟩
    · exact ⟨true, z - 9223372036854775808, by simp; omega, by omega, by unfold key; rw [if_neg h]; simp; omega⟩
  obtain ⟨s, r, ex, hr, kx⟩ := dec x hx hx1
  obtain ⟨t, p, ey, hp, ky⟩ := dec y hy hy1
  rw [kx, ky, ex, ey]
  by_cases h1 : r = 9218868437227405312
  · subst h1
    have rx : Ieee.double.read (if s then 9223372036854775808 + 9218868437227405312 else 9218868437227405312) = .infinity s := by cases s; exact read_inf.1; exact read_inf.2
    by_cases h2 : p = 9218868437227405312
    · subst h2
      have ry : Ieee.double.read (if t then 9223372036854775808 + 9218868437227405312 else 9218868437227405312) = .infinity t := by cases t; exact read_inf.1; exact read_inf.2
      unfold Ieee.Format.order
      rw [rx, ry]
      cases s <;> cases t <;> decide
    · obtain ⟨l, m, _, _, _, v2, _, b1, b2⟩ := read_num p (by omega)
      have hb : Ieee.double.read (if t then 9223372036854775808 + p else p) = .number t m (-1074 + (l : Int)) := by cases t <;> simp [b1, b2]
      unfold Ieee.Format.order
      rw [rx, hb]
      simp only [Datum.order, Option.some.injEq]
      rw [cmp_eq]
      cases s <;> cases t <;> simp only [if_true, if_false, Bool.false_eq_true] <;> (first | rw [if_pos (by omega)] | rw [if_neg (by omega), if_neg (by omega)])
  · by_cases h2 : p = 9218868437227405312
    · subst h2
      have ry : Ieee.double.read (if t then 9223372036854775808 + 9218868437227405312 else 9218868437227405312) = .infinity t := by cases t; exact read_inf.1; exact read_inf.2
      obtain ⟨l, m, _, _, _, v2, _, b1, b2⟩ := read_num r (by omega)
      have hb : Ieee.double.read (if s then 9223372036854775808 + r else r) = .number s m (-1074 + (l : Int)) := by cases s <;> simp [b1, b2]
      unfold Ieee.Format.order
      rw [ry, hb]
      simp only [Datum.order, Option.some.injEq]
      rw [cmp_eq]
      cases s <;> cases t <;> simp only [if_true, if_false, Bool.false_eq_true] <;> (first | rw [if_pos (by omega)] | rw [if_neg (by omega), if_neg (by omega)])
    · exact order_num s t r p (by omega) (by omega)

theorem order_nan (x y : Nat) (h : (Ieee.double.read x).isNaN = true ∨ (Ieee.double.read y).isNaN = true) : Ieee.double.order x y = none := by
  unfold Ieee.Format.order
  generalize Ieee.double.read x = a at h ⊢
  generalize Ieee.double.read y = b at h ⊢
  cases a <;> cases b <;> simp [Ieee.Datum.order, Ieee.Datum.isNaN] at h ⊢

/-! the nearest -/
theorem cut_spec (n d : Nat) : ∃ q, Toward.even.cut false n d = q ∧ 2 * n ≤ 2 * (q * 2 ^ d) + 2 ^ d ∧ (2 * n = 2 * (q * 2 ^ d) + 2 ^ d → q % 2 = 0) ∧ 2 * (q * 2 ^ d) ≤ 2 * n + 2 ^ d ∧ (2 * (q * 2 ^ d) = 2 * n + 2 ^ d → q % 2 = 0) := by
  refine ⟨_, rfl, ?_⟩
  unfold Toward.cut
  simp only [Nat.one_shiftLeft]
  by_cases h : d ≤ n.log2 + 2
  · rw [Nat.min_eq_left h]
    generalize hg : 2 ^ d = g
    have hg0 : 0 < g := by rw [← hg]; exact Nat.pow_pos (by omega)
    have h1 := Nat.div_add_mod n g
    have h2 := Nat.mod_lt n hg0
    generalize n / g = low at h1 ⊢
    generalize n % g = rest at h1 h2 ⊢
    have m1 : low * g = g * low := Nat.mul_comm _ _
    have m2 : (low + 1) * g = g * low + g := by rw [Nat.add_mul, Nat.one_mul, m1]
    generalize g * low = P at h1 m1 m2
    by_cases c1 : g < 2 * rest
    · have : (decide (g < 2 * rest) || g == 2 * rest && low % 2 == 1) = true := by simp [c1]
      rw [this, Bool.toNat_true, m2]
      omega
    · by_cases c2 : g = 2 * rest
      · by_cases c3 : low % 2 = 1
        · have : (decide (g < 2 * rest) || g == 2 * rest && low % 2 == 1) = true := by simp [c2, c3]
          rw [this, Bool.toNat_true, m2]
          omega
        · have : (decide (g < 2 * rest) || g == 2 * rest && low % 2 == 1) = false := by simp [c1, c3]
          rw [this, Bool.toNat_false, Nat.add_zero, m1]
          omega
      · have : (decide (g < 2 * rest) || g == 2 * rest && low % 2 == 1) = false := by simp [c1, c2]
        rw [this, Bool.toNat_false, Nat.add_zero, m1]
        omega
  · rw [Nat.min_eq_right (by omega)]
    have h1 := Nat.lt_log2_self (n := n)
    have h2 : 2 ^ (n.log2 + 2) = 2 * 2 ^ (n.log2 + 1) := by rw [Nat.pow_succ]; omega
    have h3 : 2 ^ (n.log2 + 2) ≤ 2 ^ d := Nat.pow_le_pow_right (by omega) (by omega)
    have e1 : n / 2 ^ (n.log2 + 2) = 0 := Nat.div_eq_of_lt (by omega)
    have e2 : n % 2 ^ (n.log2 + 2) = n := Nat.mod_eq_of_lt (by omega)
    rw [e1, e2]
    have : (decide (2 ^ (n.log2 + 2) < 2 * n) || 2 ^ (n.log2 + 2) == 2 * n && 0 % 2 == 1) = false := by
      have : ¬ 2 ^ (n.log2 + 2) < 2 * n := by omega
      simp [this]
    rw [this]
    simp
    omega

/-- the units of both sides made the same -/
theorem scale_le (q n g k : Nat) (h : 2 * (q * g) ≤ 2 * n + g) : 2 * (q * (g * k)) ≤ 2 * (n * k) + g * k := by
  have := Nat.mul_le_mul_right k h
  rw [Nat.add_mul, Nat.mul_assoc, Nat.mul_assoc, Nat.mul_assoc 2 n k] at this
  exact this
theorem scale_lt (q n g k : Nat) (hk : 0 < k) (h : 2 * (q * g) < 2 * n + g) : 2 * (q * (g * k)) < 2 * (n * k) + g * k := by
  have := Nat.mul_lt_mul_of_pos_right h hk
  rw [Nat.add_mul, Nat.mul_assoc, Nat.mul_assoc, Nat.mul_assoc 2 n k] at this
  exact this
theorem scale_le' (q n g k : Nat) (h : 2 * n ≤ 2 * (q * g) + g) : 2 * (n * k) ≤ 2 * (q * (g * k)) + g * k := by
  have := Nat.mul_le_mul_right k h
  rw [Nat.add_mul, Nat.mul_assoc, Nat.mul_assoc, Nat.mul_assoc] at this
  exact this
theorem scale_lt' (q n g k : Nat) (hk : 0 < k) (h : 2 * n < 2 * (q * g) + g) : 2 * (n * k) < 2 * (q * (g * k)) + g * k := by
  have := Nat.mul_lt_mul_of_pos_right h hk
  rw [Nat.add_mul, Nat.mul_assoc, Nat.mul_assoc, Nat.mul_assoc] at this
  exact this
theorem cut_mono (n1 d1 n2 d2 : Nat) (h : n1 * 2 ^ d2 ≤ n2 * 2 ^ d1) : Toward.even.cut false n1 d1 ≤ Toward.even.cut false n2 d2 := by
  obtain ⟨q1, e1, _, _, a1, a2⟩ := cut_spec n1 d1
  obtain ⟨q2, e2, b1, b2, _, _⟩ := cut_spec n2 d2
  rw [e1, e2]
  refine Classical.byContradiction fun hn => ?_
  have hlt : q2 + 1 ≤ q1 := by omega
  have g0 : 0 < 2 ^ d1 := Nat.pow_pos (by omega)
  have k0 : 0 < 2 ^ d2 := Nat.pow_pos (by omega)
  clear e1 e2
  generalize 2 ^ d1 = g at h a1 a2 g0
  generalize 2 ^ d2 = k at h b1 b2 k0
  have A := scale_le q1 n1 g k a1
  have A' := scale_lt q1 n1 g k k0
  have B := scale_le' q2 n2 k g b1
  have B' := scale_lt' q2 n2 k g g0
  rw [Nat.mul_comm k g] at B B'
  have x0 : 0 < g * k := Nat.mul_pos g0 k0
  have x4 : (q2 + 1) * (g * k) ≤ q1 * (g * k) := Nat.mul_le_mul_right _ hlt
  rw [Nat.add_mul, Nat.one_mul] at x4
  have ea : 2 * (q1 * g) = 2 * n1 + g := by
    refine Classical.byContradiction fun hne => ?_
    have := A' (by omega)
    generalize q1 * (g * k) = Q1 at *
    generalize q2 * (g * k) = Q2 at *
    generalize g * k = G at *
    generalize n1 * k = N1 at *
    generalize n2 * g = N2 at *
    omega
  have eb : 2 * n2 = 2 * (q2 * k) + k := by
    refine Classical.byContradiction fun hne => ?_
    have := B' (by omega)
    generalize q1 * (g * k) = Q1 at *
    generalize q2 * (g * k) = Q2 at *
    generalize g * k = G at *
    generalize n1 * k = N1 at *
    generalize n2 * g = N2 at *
    omega
  have p1 := a2 ea
  have p2 := b2 eb
  have e3 : q2 + 2 ≤ q1 := by omega
  have x5 : (q2 + 2) * (g * k) ≤ q1 * (g * k) := Nat.mul_le_mul_right _ e3
  rw [Nat.add_mul] at x5
  clear ea eb a1 a2 b1 b2 A' B'
  generalize q1 * (g * k) = Q1 at *
  generalize q2 * (g * k) = Q2 at *
  generalize g * k = G at *
  generalize n1 * k = N1 at *
  generalize n2 * g = N2 at *
  omega

theorem cut_zero (n : Nat) : Toward.even.cut false n 0 = n := by
  unfold Toward.cut
  have : (1 <<< min 0 (n.log2 + 2) : Nat) = 1 := by rw [Nat.zero_min]; rfl
  simp [this, Nat.mod_one]

end Go.Proofs.Ytmbidannodelfaa.F
