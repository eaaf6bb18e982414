/- The document's whole number of a number that is at least 1 and below 2^64. -/
import Derived.Test.YtmbidannodelfaaFk
import Derived.Deep.LoopGhost
namespace Go.Proofs.Ytmbidannodelfaa.G
open Go.RowKit
set_option linter.unusedVariables false
set_option linter.unusedSimpArgs false

theorem half_next (q i : Nat) : q / 2 ^ i / 2 = q / 2 ^ (i + 1) := by rw [Nat.div_div_eq_div_mul, Nat.pow_succ]
theorem twice_next (q i : Nat) : q * 2 ^ i * 2 = q * 2 ^ (i + 1) := by rw [Nat.mul_assoc, Nat.pow_succ]
theorem u64w (n : Nat) (h : n < 18446744073709551616) : IntKind.u64.wrap (n : Int) = (n : Int) := by show (n : Int) % 18446744073709551616 = _; omega
set_option maxRecDepth 100000 in
set_option maxHeartbeats 1000000 in
theorem rwhole_core (x q E lo z : Nat) (hi : Int) (w : World) (el : (x : Int).tmod 4503599627370496 = (lo : Int)) (ea : IntKind.u64.wrap ((lo : Int) + 4503599627370496) = (q : Int)) (eq : IntKind.u64.wrap ((x : Int) / 4503599627370496) = hi) (eh : hi.tmod 2048 = (E : Int))
    (ec : wrap64 (E : Int) = (E : Int)) (es : wrap64 ((E : Int) - 1075) = (E : Int) - 1075) (hq : q < 9007199254740992) (hE : E ≤ 1086) (hz : Hid (z = q * 2 ^ (E - 1075) / 2 ^ (1075 - E))) :
    Calls Try.prog 52 #[.float .f64 x] w fun e w' => e = .returned (.int .u64 (z : Nat)) ∧ w = w' := by
  have fb := bitsr x
  obtain ⟨h0, hh0⟩ : ∃ h0 : Int, h0 = (E : Int) - 1075 := ⟨_, rfl⟩
  rw [← hh0] at es
  have HE := Lib.hid hh0
  clear hh0
  go_enter Try.func52, Try.ntmps52
  go_wp2_with fail
  go_loop [4, 5] (fun nv hv => ∃ (i n : Nat) (h : Int), nv = .int .u64 n ∧ hv = .int .i64 h ∧ n = q / 2 ^ i ∧ h = h0 + i ∧ (i = 0 ∨ h ≤ 0)) (fun _ c => (0 - intOf c).toNat)
  case atStart => exact ⟨0, q, h0, rfl, by rw [HE.out], by rw [Nat.pow_zero, Nat.div_one], by omega, Or.inl rfl⟩
  case round =>
    obtain ⟨i, n, h, rfl, rfl, hn, hh, hor⟩ := hrel
    have hE' := HE.out
    have hnq : n ≤ q := by rw [hn]; exact Nat.div_le_self _ _
    by_cases hneg : h < 0
    · obtain ⟨m, hm⟩ : ∃ m, m = n / 2 := ⟨_, rfl⟩
      have e1 : IntKind.u64.wrap ((n : Int) / 2) = (m : Int) := by
        have : ((n : Int) / 2) = ((n / 2 : Nat) : Int) := by omega
        rw [this, ← hm]; exact u64w _ (by omega)
      obtain ⟨h', hh'⟩ : ∃ h', h' = h + 1 := ⟨_, rfl⟩
      have e2 : wrap64 (h + 1) = h' := by rw [hh']; unfold wrap64; omega
      have hm2 : m = q / 2 ^ (i + 1) := by rw [hm, hn, half_next]
      have M2 := Lib.hid hm2
      have HH := Lib.hid hh
      have HH' := Lib.hid hh'
      clear hm hm2 hn hh hh' hor hE'
      go_wp2_with fail
      go_round
      case rel => exact ⟨i + 1, m, h', rfl, by rw [e2], M2.out, by have := HH.out; have := HH'.out; omega, by have := HH'.out; omega⟩
      case measure => have := HH'.out; simp [intOf]; omega
    · -- not below 0: the second loop
      have hnn : 0 ≤ h := by omega
      have HH := Lib.hid hh
      have HN := Lib.hid hn
      have HO := Lib.hid hor
      clear hn hh hor hE'
      go_wp2_with fail
      go_loop [4, 5] (fun nv hv => ∃ (j m : Nat) (g : Int), nv = .int .u64 m ∧ hv = .int .i64 g ∧ m = n * 2 ^ j ∧ g = h - j ∧ 0 ≤ g) (fun _ c => (intOf c).toNat)
      case atStart => exact ⟨0, n, h, rfl, rfl, by rw [Nat.pow_zero, Nat.mul_one], by omega, hnn⟩
      case round =>
        obtain ⟨j, m, g, rfl, rfl, hm, hg, hg0⟩ := hrel
        have hE' := HE.out
        have hh := HH.out
        have hor := HO.out
        by_cases hpos : 0 < g
        · have hj : j ≤ 10 := by omega
          have hb : m < 9223372036854775808 := by
            have : n * 2 ^ j ≤ n * 2 ^ 10 := Nat.mul_le_mul_left _ (Nat.pow_le_pow_right (by omega) hj)
            have e : (2 : Nat) ^ 10 = 1024 := by decide
            rw [e] at this
            omega
          obtain ⟨k, hk⟩ : ∃ k, k = m * 2 := ⟨_, rfl⟩
          have e1 : IntKind.u64.wrap ((m : Int) * 2) = (k : Int) := by
            have : ((m : Int) * 2) = ((m * 2 : Nat) : Int) := by omega
            rw [this, ← hk]; exact u64w _ (by omega)
          obtain ⟨g', hg'⟩ : ∃ g', g' = g - 1 := ⟨_, rfl⟩
          have e2 : wrap64 (g - 1) = g' := by rw [hg']; unfold wrap64; omega
          have hk2 : k = n * 2 ^ (j + 1) := by rw [hk, hm, twice_next]
          have K2 := Lib.hid hk2
          have HG := Lib.hid hg
          have HG' := Lib.hid hg'
          clear hk hk2 hm hg hg' hor hE' hh hb hj
          go_wp2_with fail
          go_round
          case rel => exact ⟨j + 1, k, g', rfl, by rw [e2], K2.out, by have := HG.out; have := HG'.out; omega, by have := HG'.out; omega⟩
          case measure => have := HG'.out; simp [intOf]; omega
        · have hmz : m = z := by
            have hn := HN.out
            rw [hz.out, hm, hn]
            by_cases hi0 : i = 0
            · have e1 : 1075 - E = 0 := by omega
              have e2 : E - 1075 = j := by omega
              rw [hi0, e1, e2, Nat.pow_zero, Nat.div_one, Nat.div_one]
            · have e1 : E - 1075 = 0 := by omega
              have e2 : 1075 - E = i := by omega
              have e3 : j = 0 := by omega
              rw [e1, e2, e3, Nat.pow_zero, Nat.mul_one, Nat.mul_one]
          subst hmz
          clear hm hg hE' hh hor
          go_wp2_with fail
          go_ret
          exact ⟨rfl, rfl⟩

theorem rwhole_val (x : Nat) (w : World) (h1 : 4607182418800017408 ≤ x) (h2 : x < 4895412794951729152) :
    Calls Try.prog 52 #[.float .f64 x] w fun e w' => e = .returned (.int .u64 (F.fl x : Nat)) ∧ w = w' := by
  have hf := F.fl_digits x (by omega)
  have el : (x : Int).tmod 4503599627370496 = ((x % 4503599627370496 : Nat) : Int) := (Int.ofNat_tmod x 4503599627370496).symm
  have eh : (((x / 4503599627370496 : Nat) : Int)).tmod 2048 = ((x / 4503599627370496 : Nat) : Int) := by
    refine (Int.ofNat_tmod (x / 4503599627370496) 2048).symm.trans ?_
    rw [Nat.mod_eq_of_lt (by omega)]
  refine rwhole_core x (4503599627370496 + x % 4503599627370496) (x / 4503599627370496) (x % 4503599627370496) (F.fl x) _ w el ?_ ?_ eh ?_ ?_ ?_ ?_ (Lib.hid hf)
  · have : ((x % 4503599627370496 : Nat) : Int) + 4503599627370496 = ((4503599627370496 + x % 4503599627370496 : Nat) : Int) := by omega
    rw [this]; exact u64w _ (by omega)
  · have : ((x : Int) / 4503599627370496) = ((x / 4503599627370496 : Nat) : Int) := by omega
    rw [this]; exact u64w _ (by omega)
  · unfold wrap64; omega
  · unfold wrap64; omega
  · omega
  · omega
end Go.Proofs.Ytmbidannodelfaa.G
