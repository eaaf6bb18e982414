/- What ticks and shares do as numbers grow; sums with a fraction; powers of 2, and what is turned below 0. -/
import Derived.Test.YtmbidannodelfaaFr
namespace Go.Proofs.Ytmbidannodelfaa.F
open Ieee
set_option linter.unusedVariables false
set_option linter.unusedSimpArgs false

theorem leq_key (x y : Nat) (hx : x < 18446744073709551616) (hy : y < 18446744073709551616) (h : (Ieee.double.order x y == some .lt || Ieee.double.order x y == some .eq) = true) :
    x % 9223372036854775808 ≤ 9218868437227405312 ∧ y % 9223372036854775808 ≤ 9218868437227405312 ∧ key x ≤ key y := by
  by_cases a : 9218868437227405312 < x % 9223372036854775808
  · rw [order_nan x y (Or.inl (read_nan x a))] at h; simp at h
  by_cases b : 9218868437227405312 < y % 9223372036854775808
  · rw [order_nan x y (Or.inr (read_nan y b))] at h; simp at h
  refine ⟨by omega, by omega, ?_⟩
  rw [order_key x y hx hy (by omega) (by omega), cmp_eq] at h
  by_cases c : key x < key y
  · omega
  rw [if_neg c] at h
  by_cases d : key x = key y
  · omega
  rw [if_neg d] at h; simp at h

theorem ticks_grow (x y : Nat) (hx : x < 18446744073709551616) (hy : y < 18446744073709551616) (h : (Ieee.double.order x y == some .lt || Ieee.double.order x y == some .eq) = true) (e : tickE x = 0) :
    tickE y = 0 ∧ tickV x ≤ tickV y := by
  obtain ⟨n1, n2, hk⟩ := leq_key x y hx hy h
  clear h
  have t : timely x := by
    by_cases t : timely x
    · exact t
    · unfold tickE at e; rw [if_neg t] at e; omega
  have t' := t
  unfold timely at t'
  have xy : x ≤ y ∧ y ≤ 9218868437227405312 := by
    unfold key at hk; rw [if_pos (by omega)] at hk
    by_cases c : y < 9223372036854775808
    · rw [if_pos c] at hk; omega
    · rw [if_neg c] at hk; omega
  clear hk e
  have ty : timely y := by unfold timely; omega
  unfold tickE tickV
  rw [if_pos ty, if_pos t, if_pos ty]
  refine ⟨rfl, ?_⟩
  by_cases bx : 4895412794951729152 ≤ x
  · rw [if_pos bx, if_pos (by omega)]; omega
  · rw [if_neg bx]
    by_cases b : 4895412794951729152 ≤ y
    · rw [if_pos b]; have := fl_big (x := x) (by omega); omega
    · rw [if_neg b]; exact fl_mono xy.1

theorem mb_zero (n : Nat) (hn : n < 9007199254740992) : mb 0 n = 0 := by
  obtain ⟨l, m, e', hq', hk', hv', hk2', hr', _⟩ := read_num (nb n) (nb_num n hn).1
  have h1 : Ieee.double.read 0 = .number false 0 (-1074) := by decide
  unfold mb Ieee.Format.mul
  rw [h1, hr']
  simp only [Datum.product, Option.map_some, Ieee.Format.write, Nat.zero_mul, Ieee.Format.nearest, if_true]
  rfl
theorem fl_zero : fl 0 = 0 := fl_none (by omega)
theorem sh_ok {x : Nat} {n : Int} (e : shE x n = 0) : shareable x n := by
  by_cases t : shareable x n
  · exact t
  · unfold shE at e; rw [if_neg t] at e; omega
theorem share_grow (x y : Nat) (n : Int) (hx : x < 18446744073709551616) (hy : y < 18446744073709551616) (h : (Ieee.double.order x y == some .lt || Ieee.double.order x y == some .eq) = true) (e : shE x n = 0) (f : shE y n = 0) :
    shV x n ≤ shV y n := by
  obtain ⟨n1, n2, hk⟩ := leq_key x y hx hy h
  clear h
  have sx := sh_ok e
  have sy := sh_ok f
  clear e f
  unfold shV
  rw [if_pos sx, if_pos sy]
  unfold shareable at sx sy
  have hn : n.toNat < 9007199254740992 := by omega
  by_cases a : x = 9223372036854775808
  · rw [if_pos a]; omega
  rw [if_neg a]
  have kx : key x = (x : Int) := by unfold key; rw [if_pos (by omega)]
  rw [kx] at hk
  by_cases b : y = 9223372036854775808
  · rw [b] at hk
    have : key 9223372036854775808 = 0 := by decide
    rw [this] at hk
    have : x = 0 := by omega
    rw [this, mb_zero _ hn, fl_zero]; omega
  · rw [if_neg b]
    have ky : key y = (y : Int) := by unfold key; rw [if_pos (by omega)]
    rw [ky] at hk
    exact fl_mono (mb_le x y _ (by omega) (by omega) hn)
theorem share_le (x : Nat) (n : Int) (e : shE x n = 0) : 0 ≤ n ∧ n ≤ 100000 ∧ ((shV x n : Nat) : Int) ≤ n := by
  have sx := sh_ok e
  clear e
  unfold shV
  rw [if_pos sx]
  unfold shareable at sx
  refine ⟨sx.2.1, sx.2.2, ?_⟩
  by_cases a : x = 9223372036854775808
  · rw [if_pos a]; omega
  rw [if_neg a]
  have := (mb_bound x n.toNat (by omega) (by omega)).2
  omega
theorem share_one (n : Int) (h0 : 0 ≤ n) (h1 : n ≤ 100000) : shE 4607182418800017408 n = 0 ∧ ((shV 4607182418800017408 n : Nat) : Int) = n := by
  have s : shareable 4607182418800017408 n := by unfold shareable; omega
  unfold shE shV
  rw [if_pos s, if_pos s, if_neg (by omega), mb_one _ (by omega), (nb_num n.toNat (by omega)).2.2]
  exact ⟨rfl, by omega⟩
theorem share_one_bad (n : Int) (h : ¬ (0 ≤ n ∧ n ≤ 100000)) : shE 4607182418800017408 n = 1 := by
  have s : ¬ shareable 4607182418800017408 n := by unfold shareable; omega
  unfold shE
  rw [if_neg s]

theorem sig_false (q u : Nat) : Ieee.signed false q u = ((q * 2 ^ u : Nat) : Int) := by unfold Ieee.signed; rw [if_neg (by simp), shift_eq]
/-- the sum of two numbers that are not below 0 -/
theorem add_num (x y m t : Nat) (hx : x < 9218868437227405312) (hy : y < 9218868437227405312) (h : val x + val y = m * 2 ^ t) : Ieee.double.add x y = some (Ieee.double.nearest false m (-1074 + (t : Int))) := by
  obtain ⟨k, q, _, _, _, hv, _, hr, _⟩ := read_num x hx
  obtain ⟨l, p, _, _, _, hv', _, hr', _⟩ := read_num y hy
  unfold Ieee.Format.add
  rw [hr, hr']
  obtain ⟨z, hz⟩ : ∃ z, z = min k l := ⟨_, rfl⟩
  have hb : min (-1074 + (k : Int)) (-1074 + (l : Int)) = -1074 + (z : Int) := by omega
  simp only [Datum.sum, hb, sig_false, Option.map_some, Option.some.injEq]
  have e1 : (-1074 + (k : Int) - (-1074 + (z : Int))).toNat = k - z := by omega
  have e2 : (-1074 + (l : Int) - (-1074 + (z : Int))).toNat = l - z := by omega
  rw [e1, e2]
  have hs : ((q * 2 ^ (k - z) : Nat) : Int) + ((p * 2 ^ (l - z) : Nat) : Int) = ((q * 2 ^ (k - z) + p * 2 ^ (l - z) : Nat) : Int) := by omega
  rw [hs]
  obtain ⟨s, hse⟩ : ∃ s, s = q * 2 ^ (k - z) + p * 2 ^ (l - z) := ⟨_, rfl⟩
  rw [← hse]
  have hneg : (if ((s : Nat) : Int) = 0 then (false && false) else decide (((s : Nat) : Int) < 0)) = false := by
    by_cases c : ((s : Nat) : Int) = 0
    · rw [if_pos c]; rfl
    · rw [if_neg c]; exact decide_eq_false (by omega)
  rw [hneg]
  show Ieee.double.nearest false ((s : Int).natAbs) _ = _
  rw [Int.natAbs_natCast]
  refine nearest_same s m _ _ (-1074) z t rfl rfl ?_
  rw [← h, hv, hv', hse, Nat.add_mul, Nat.mul_assoc, Nat.mul_assoc, ← Nat.pow_add, ← Nat.pow_add]
  have e3 : k - z + z = k := by omega
  have e4 : l - z + z = l := by omega
  rw [e3, e4]

theorem part_div : ∀ p : Fin 256, Ieee.double.div (nb p.val) 4643211215818981376 = some (Ieee.double.nearest false p.val (-8)) := by decide +kernel
def E8 : Nat := 1066
theorem D_E8 : 2 ^ D = 2 ^ E8 * 256 := by
  have e : D = E8 + 8 := by decide
  rw [e, Nat.pow_add, show (2 : Nat) ^ 8 = 256 from by decide]
def whx (n p : Nat) : Nat := Ieee.double.nearest false (256 * n + p) (-8)
theorem whx_sum (n p : Nat) (hn : n < 4503599627370496) (hp : p < 256) : Ieee.double.add (nb n) (Ieee.double.nearest false p (-8)) = some (whx n p) := by
  obtain ⟨r, hr, hr1, hv⟩ := nearest_small p E8 (by omega) (by decide)
  have e : -1074 + ((E8 : Nat) : Int) = -8 := by decide
  rw [e] at hr
  have hn' := nb_num n (by omega)
  have hs : val (nb n) + val r = (256 * n + p) * 2 ^ E8 := by
    rw [hn'.2.1, hv, D_E8]
    generalize 2 ^ E8 = K
    rw [Nat.add_mul, Nat.mul_comm 256 n, Nat.mul_assoc, Nat.mul_comm 256]
  have := add_num (nb n) r (256 * n + p) E8 hn'.1 hr1 hs
  rw [e] at this
  rw [hr]; exact this
theorem whx_fl (n p : Nat) (hn : n ≤ 17592186044416) (hp : p < 256) : whx n p < 9218868437227405312 ∧ fl (whx n p) = n := by
  obtain ⟨r, hr, hr1, hv⟩ := nearest_small (256 * n + p) E8 (by omega) (by decide)
  have e : -1074 + ((E8 : Nat) : Int) = -8 := by decide
  rw [e] at hr
  unfold whx
  rw [hr]
  refine ⟨hr1, ?_⟩
  unfold fl
  rw [hv, D_E8, Nat.mul_comm (2 ^ E8) 256, Nat.mul_div_mul_right _ _ (Nat.pow_pos (by omega))]
  omega
theorem whx_lt (n p : Nat) : whx n p < 18446744073709551616 := by
  have := nearest_le (256 * n + p) (-8)
  unfold whx; omega
theorem fl_bigval : fl 4895412794951729152 = 18446744073709551616 := fl_of val_big
theorem tick_fl (x : Nat) (hx : x < 9218868437227405312) (hf : fl x < 18446744073709551616) : tickV x = fl x ∧ tickE x = if fl x = 0 then 1 else 0 := by
  unfold tickV tickE
  by_cases a : x < 4607182418800017408
  · have : ¬ timely x := by unfold timely; omega
    rw [if_neg this, if_neg this, fl_none a]; exact ⟨rfl, rfl⟩
  · have : timely x := by unfold timely; omega
    rw [if_pos this, if_pos this]
    have h1 := fl_pos (x := x) (by omega)
    have h2 : ¬ 4895412794951729152 ≤ x := fun c => by have := fl_mono c; rw [fl_bigval] at this; omega
    rw [if_neg h2, if_neg (by omega)]; exact ⟨rfl, rfl⟩

def pw (n : Nat) : Nat := (1023 + n) * 4503599627370496
theorem pw_val (n : Nat) : val (pw n) = 2 ^ n * 2 ^ D := by
  have h := val_line (1022 + n) 4503599627370496 (by omega) (Or.inl (by omega))
  have e : (1022 + n) * 4503599627370496 + 4503599627370496 = pw n := by unfold pw; omega
  rw [e] at h
  rw [h]
  have e2 : (4503599627370496 : Nat) = 2 ^ 52 := by decide
  rw [e2, ← Nat.pow_add, ← Nat.pow_add]
  congr 1
  show 52 + (1022 + n) = n + 1074
  omega
theorem pw_fl (n : Nat) : fl (pw n) = 2 ^ n := fl_of (pw_val n)
theorem pw_less (n : Nat) (hn : 1 ≤ n) : fl (pw n - 1) < 2 ^ n := by
  unfold fl
  rw [Nat.div_lt_iff_lt_mul pD, ← pw_val n]
  exact val_lt (by unfold pw; omega)
theorem pw_less64 : fl (pw 64 - 1) = 18446744073709549568 := by
  obtain ⟨k, hk⟩ : ∃ k, k = 11 + D := ⟨_, rfl⟩
  have h := val_line k 9007199254740991 (by omega) (Or.inl (by omega))
  have e : k * 4503599627370496 + 9007199254740991 = pw 64 - 1 := by rw [hk]; decide
  rw [e] at h
  refine fl_of ?_
  rw [h, hk, Nat.pow_add, ← Nat.mul_assoc]
theorem nearest_neg (m : Nat) (p : Int) (hm : m ≠ 0) : ∃ t, Ieee.double.nearest true m p = 9223372036854775808 + min t 9218868437227405312 := by
  unfold Ieee.Format.nearest
  rw [if_neg hm]
  unfold Ieee.Format.word
  rw [if_pos rfl, c_sign, c_inf]
  exact ⟨_, rfl⟩
theorem sub_neg (x : Nat) (h0 : 0 < x) (hx : x < 9218868437227405312) : ∃ r, Ieee.double.sub 0 x = some r ∧ 9223372036854775808 ≤ r ∧ r < 18446744073709551616 := by
  obtain ⟨k, q, _, _, _, hv, _, hr, _⟩ := read_num x hx
  have h1 : Ieee.double.read 0 = .number false 0 (-1074) := by decide
  have hp : 0 < val x := by have := val_lt h0; omega
  have hq : 0 < q * 2 ^ k := by rw [← hv]; exact hp
  unfold Ieee.Format.sub
  rw [h1, hr]
  have hb : min (-1074 : Int) (-1074 + (k : Int)) = -1074 := by omega
  simp only [Datum.opposite, Datum.sum, hb, Option.map_some, Option.some.injEq]
  have e1 : (-1074 + (k : Int) - (-1074 : Int)).toNat = k := by omega
  have e2 : Ieee.signed (!false) q k = -((q * 2 ^ k : Nat) : Int) := by show (if true = true then (-(q <<< k : Nat) : Int) else _) = _; rw [if_pos rfl, shift_eq]
  have e3 : Ieee.signed false 0 ((-1074 : Int) - -1074).toNat = 0 := by decide
  rw [e1, e2, e3]
  obtain ⟨v, hve⟩ : ∃ v, v = q * 2 ^ k := ⟨_, rfl⟩
  rw [← hve] at hq ⊢
  have e4 : (0 : Int) + -(v : Int) = -(v : Int) := by omega
  rw [e4, if_neg (by omega), decide_eq_true (show (-(v : Int)) < 0 by omega)]
  refine ⟨_, rfl, ?_⟩
  have e5 : (-(v : Int)).natAbs = v := by omega
  rw [e5]
  obtain ⟨t, ht⟩ := nearest_neg v (-1074) (by omega)
  show 9223372036854775808 ≤ Ieee.double.nearest true v (-1074) ∧ Ieee.double.nearest true v (-1074) < 18446744073709551616
  rw [ht]
  clear ht e5 e4 e3 e2 e1 hr h1 hv hb hve
  omega
theorem neg_tick (r : Nat) (h : 9223372036854775808 ≤ r) : tickE r = 1 ∧ tickV r = 0 := by
  have : ¬ timely r := by unfold timely; omega
  unfold tickE tickV
  rw [if_neg this, if_neg this]; exact ⟨rfl, rfl⟩
end Go.Proofs.Ytmbidannodelfaa.F
