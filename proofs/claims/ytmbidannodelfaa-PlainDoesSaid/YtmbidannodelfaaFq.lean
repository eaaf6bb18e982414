/- The nearest number to a number; what is whole of one. -/
import Derived.Test.YtmbidannodelfaaFp
namespace Go.Proofs.Ytmbidannodelfaa.F
open Ieee
set_option linter.unusedVariables false
set_option linter.unusedSimpArgs false

/-- the nearest, in its parts -/
theorem nearest_eq (m : Nat) (p : Int) (hm : m ≠ 0) : ∃ (L : Int) (u d : Nat), L = max (p + (m.log2 : Int) - 52) (-1074) ∧ u = (p - L).toNat ∧ d = (L - p).toNat ∧ Ieee.double.nearest false m p = min ((L + 1074).toNat * 4503599627370496 + Toward.even.cut false (m * 2 ^ u) d) 9218868437227405312 := by
  refine ⟨max (p + (m.log2 : Int) - 52) (-1074), _, _, rfl, rfl, rfl, ?_⟩
  unfold Ieee.Format.nearest
  rw [if_neg hm]
  simp only [c_frac, c_least, c_bin, c_inf, shift_eq, Ieee.Format.word, Bool.false_eq_true, if_false]
  have e1 : ∀ a : Int, a - -1074 = a + 1074 := by omega
  have e2 : ((52 : Nat) : Int) = 52 := rfl
  rw [e2, e1]
theorem nearest_le (m : Nat) (p : Int) : Ieee.double.nearest false m p ≤ 9218868437227405312 := by
  by_cases hm : m = 0
  · subst hm; unfold Ieee.Format.nearest; rw [if_pos rfl]; unfold Ieee.Format.word; simp
  · obtain ⟨_, _, _, _, _, _, e⟩ := nearest_eq m p hm
    rw [e]; exact Nat.min_le_right _ _
theorem nearest_zero (p : Int) : Ieee.double.nearest false 0 p = 0 := by unfold Ieee.Format.nearest; rw [if_pos rfl]; rfl

theorem cut_le (n d c : Nat) (h : n ≤ c * 2 ^ d) : Toward.even.cut false n d ≤ c := by
  have := cut_mono n d c 0 (by simpa using h)
  rwa [cut_zero] at this
theorem le_cut (n d c : Nat) (h : c * 2 ^ d ≤ n) : c ≤ Toward.even.cut false n d := by
  have := cut_mono c 0 n d (by simpa using h)
  rwa [cut_zero] at this

/-- the digits that are kept: at most 2^53, and 2^52 at least, but for the least line -/
theorem kept_bounds (m : Nat) (p L : Int) (u d : Nat) (hm : m ≠ 0) (hL : L = max (p + (m.log2 : Int) - 52) (-1074)) (hu : u = (p - L).toNat) (hd : d = (L - p).toNat) :
    Toward.even.cut false (m * 2 ^ u) d ≤ 9007199254740992 ∧ (-1074 < L → 4503599627370496 ≤ Toward.even.cut false (m * 2 ^ u) d) := by
  have h1 := Nat.log2_self_le hm
  have h2 := Nat.lt_log2_self (n := m)
  constructor
  · apply cut_le
    have e : (9007199254740992 : Nat) = 2 ^ 53 := by decide
    rw [e, ← Nat.pow_add]
    calc m * 2 ^ u ≤ 2 ^ (m.log2 + 1) * 2 ^ u := Nat.mul_le_mul_right _ (Nat.le_of_lt h2)
      _ = 2 ^ (m.log2 + 1 + u) := (Nat.pow_add _ _ _).symm
      _ ≤ 2 ^ (53 + d) := Nat.pow_le_pow_right (by omega) (by omega)
  · intro hl
    apply le_cut
    have e : (4503599627370496 : Nat) = 2 ^ 52 := by decide
    rw [e, ← Nat.pow_add]
    calc 2 ^ (52 + d) ≤ 2 ^ (m.log2 + u) := Nat.pow_le_pow_right (by omega) (by omega)
      _ = 2 ^ m.log2 * 2 ^ u := Nat.pow_add _ _ _
      _ ≤ m * 2 ^ u := Nat.mul_le_mul_right _ h1

theorem shift_rel (p1 p2 b L : Int) (a1 a2 u1 d1 u2 d2 : Nat) (h1 : p1 = b + a1) (h2 : p2 = b + a2) (hu1 : u1 = (p1 - L).toNat) (hd1 : d1 = (L - p1).toNat) (hu2 : u2 = (p2 - L).toNat) (hd2 : d2 = (L - p2).toNat) : u1 + d2 + a2 = u2 + d1 + a1 := by
  omega
theorem cut_rel (m1 m2 a1 a2 u1 d1 u2 d2 : Nat) (hr : u1 + d2 + a2 = u2 + d1 + a1) (h : m1 * 2 ^ a1 ≤ m2 * 2 ^ a2) : Toward.even.cut false (m1 * 2 ^ u1) d1 ≤ Toward.even.cut false (m2 * 2 ^ u2) d2 := by
  apply cut_mono
  rw [Nat.mul_assoc, Nat.mul_assoc, ← Nat.pow_add, ← Nat.pow_add]
  by_cases hs : a1 ≤ u1 + d2
  · obtain ⟨s, hs1⟩ : ∃ s, u1 + d2 = a1 + s := ⟨u1 + d2 - a1, by omega⟩
    have hs2 : u2 + d1 = a2 + s := by omega
    rw [hs1, hs2, Nat.pow_add, Nat.pow_add, ← Nat.mul_assoc, ← Nat.mul_assoc]
    exact Nat.mul_le_mul_right _ h
  · obtain ⟨s, hs1⟩ : ∃ s, a1 = u1 + d2 + s := ⟨a1 - (u1 + d2), by omega⟩
    have hs2 : a2 = u2 + d1 + s := by omega
    rw [hs1, hs2, Nat.pow_add _ _ s, Nat.pow_add _ _ s, ← Nat.mul_assoc, ← Nat.mul_assoc] at h
    exact Nat.le_of_mul_le_mul_right h (Nat.pow_pos (by omega))
theorem nearest_mono (m1 m2 : Nat) (p1 p2 b : Int) (a1 a2 : Nat) (h1 : p1 = b + a1) (h2 : p2 = b + a2) (h : m1 * 2 ^ a1 ≤ m2 * 2 ^ a2) : Ieee.double.nearest false m1 p1 ≤ Ieee.double.nearest false m2 p2 := by
  by_cases hm1 : m1 = 0
  · subst hm1; rw [nearest_zero]; exact Nat.zero_le _
  have hm2 : m2 ≠ 0 := by
    intro h0; subst h0
    rw [Nat.zero_mul] at h
    rcases Nat.mul_eq_zero.1 (Nat.le_zero.1 h) with h | h
    · exact hm1 h
    · have := Nat.pow_pos (n := a1) (show 0 < 2 by omega); omega
  obtain ⟨L1, u1, d1, hL1, hu1, hd1, e1⟩ := nearest_eq m1 p1 hm1
  obtain ⟨L2, u2, d2, hL2, hu2, hd2, e2⟩ := nearest_eq m2 p2 hm2
  have B1 := kept_bounds m1 p1 L1 u1 d1 hm1 hL1 hu1 hd1
  have B2 := kept_bounds m2 p2 L2 u2 d2 hm2 hL2 hu2 hd2
  have hlog : m1.log2 + a1 ≤ m2.log2 + a2 := by
    have q1 := Nat.log2_self_le hm1
    have q2 := Nat.lt_log2_self (n := m2)
    refine Classical.byContradiction fun hn => ?_
    have c1 : 2 ^ (m1.log2 + a1) ≤ m1 * 2 ^ a1 := by rw [Nat.pow_add]; exact Nat.mul_le_mul_right _ q1
    have c2 : m2 * 2 ^ a2 < 2 ^ (m2.log2 + 1 + a2) := by rw [Nat.pow_add]; exact Nat.mul_lt_mul_of_pos_right q2 (Nat.pow_pos (by omega))
    have c3 : 2 ^ (m2.log2 + 1 + a2) ≤ 2 ^ (m1.log2 + a1) := Nat.pow_le_pow_right (by omega) (by clear B1 B2 e1 e2 h hL1 hL2 hu1 hd1 hu2 hd2; omega)
    exact absurd (Nat.le_trans c1 h) (Nat.not_le.2 (Nat.lt_of_lt_of_le c2 c3))
  rw [e1, e2]
  clear e1 e2
  have hLL : L1 ≤ L2 := by
    clear B1 B2 h hu1 hd1 hu2 hd2
    omega
  have key : (L1 + 1074).toNat * 4503599627370496 + Toward.even.cut false (m1 * 2 ^ u1) d1 ≤ (L2 + 1074).toNat * 4503599627370496 + Toward.even.cut false (m2 * 2 ^ u2) d2 := by
    by_cases hEq : L1 = L2
    · subst hEq
      have hc := cut_rel m1 m2 a1 a2 u1 d1 u2 d2 (shift_rel p1 p2 b L1 a1 a2 u1 d1 u2 d2 h1 h2 hu1 hd1 hu2 hd2) h
      exact Nat.add_le_add_left hc _
    · have hge : -1074 ≤ L1 := by rw [hL1]; exact Int.le_max_right _ _
      have k2 := B2.2 (by clear hL1 hL2 hu1 hd1 hu2 hd2 B1 B2; omega)
      have k1 := B1.1
      generalize Toward.even.cut false (m1 * 2 ^ u1) d1 = X at k1 ⊢
      generalize Toward.even.cut false (m2 * 2 ^ u2) d2 = Y at k2 ⊢
      clear B1 B2 hL1 hL2 hu1 hd1 hu2 hd2 h h1 h2 hlog
      omega
  exact Nat.le_min.2 ⟨Nat.le_trans (Nat.min_le_left _ _) key, Nat.min_le_right _ _⟩

theorem nearest_same (m1 m2 : Nat) (p1 p2 b : Int) (a1 a2 : Nat) (h1 : p1 = b + a1) (h2 : p2 = b + a2) (h : m1 * 2 ^ a1 = m2 * 2 ^ a2) : Ieee.double.nearest false m1 p1 = Ieee.double.nearest false m2 p2 :=
  Nat.le_antisymm (nearest_mono m1 m2 p1 p2 b a1 a2 h1 h2 (Nat.le_of_eq h)) (nearest_mono m2 m1 p2 p1 b a2 a1 h2 h1 (Nat.le_of_eq h.symm))

theorem log_small (m : Nat) (hm : m ≠ 0) (h : m < 9007199254740992) : m.log2 ≤ 52 := by
  have : m.log2 < 53 := (Nat.log2_lt hm).2 h
  omega

/-- what has at most 53 digits is its own nearest -/
theorem nearest_small (m t : Nat) (hm : m < 9007199254740992) (ht : t ≤ 2000) : ∃ r, Ieee.double.nearest false m (-1074 + (t : Int)) = r ∧ r < 9218868437227405312 ∧ val r = m * 2 ^ t := by
  by_cases h0 : m = 0
  · subst h0
    exact ⟨0, nearest_zero _, by omega, by rw [val_zero, Nat.zero_mul]⟩
  obtain ⟨L, u, d, hL, hu, hd, e⟩ := nearest_eq m (-1074 + (t : Int)) h0
  have hl := log_small m h0 hm
  have hb := kept_bounds m _ L u d h0 hL hu hd
  obtain ⟨k, hk⟩ : ∃ k, k = (L + 1074).toNat := ⟨_, rfl⟩
  have hge : -1074 ≤ L := by rw [hL]; exact Int.le_max_right _ _
  have hle : L ≤ -1074 + (t : Int) := by clear e hb; omega
  have d0 : d = 0 := by clear e hb hL; omega
  have hku : t = k + u := by clear e hb hL; omega
  rw [d0, cut_zero] at e hb
  rw [← hk] at e
  have hlt : k * 4503599627370496 + m * 2 ^ u < 9218868437227405312 := by
    have := hb.1
    generalize m * 2 ^ u = X at this ⊢
    clear e hb hL
    omega
  rw [Nat.min_eq_left (Nat.le_of_lt hlt)] at e
  refine ⟨_, e, hlt, ?_⟩
  rw [val_line k _ hb.1 ?_, hku, Nat.mul_assoc, ← Nat.pow_add, Nat.add_comm u k]
  by_cases h1 : -1074 < L
  · exact Or.inl (hb.2 h1)
  · right; clear e hb hL; omega

/-- a rung is its own nearest -/
theorem nearest_read (k q r : Nat) (hr : r < 9218868437227405312) (e : r = k * 4503599627370496 + q) (hq : q < 9007199254740992) (hk : 4503599627370496 ≤ q ∨ k = 0) : Ieee.double.nearest false q (-1074 + (k : Int)) = r := by
  by_cases h0 : q = 0
  · have : k = 0 := by omega
    subst h0; subst this; rw [nearest_zero]; omega
  obtain ⟨L, u, d, hL, hu, hd, e1⟩ := nearest_eq q (-1074 + (k : Int)) h0
  have hl := log_small q h0 hq
  have hLk : L = -1074 + (k : Int) := by
    clear e1
    rcases hk with h | h
    · have : 52 ≤ q.log2 := (Nat.le_log2 h0).2 h
      omega
    · omega
  have u0 : u = 0 := by clear e1 hL; omega
  have d0 : d = 0 := by clear e1 hL; omega
  have hkk : (L + 1074).toNat = k := by clear e1 hL; omega
  rw [e1, u0, d0, cut_zero, Nat.pow_zero, Nat.mul_one, hkk, ← e]
  exact Nat.min_eq_left (Nat.le_of_lt hr)
end Go.Proofs.Ytmbidannodelfaa.F
