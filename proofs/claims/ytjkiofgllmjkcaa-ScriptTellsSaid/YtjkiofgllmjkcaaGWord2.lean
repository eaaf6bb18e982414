/- Contracts of the reference's number functions, and of the fixed calls. -/
import Derived.Test.YtjkiofgllmjkcaaGWord
import Derived.Lib.QuietBelow
namespace Go.Proofs.Ytjkiofgllmjkcaa.G
open Go.RowKit Go.Proofs.Ytjkiofgllmjkcaa.WordPlain
set_option linter.unusedVariables false
set_option linter.unusedSimpArgs false

theorem below_step {w w1 w2 : World} (h : Below w.heap.size w w1) (k : Below w1.heap.size w1 w2) : Below w.heap.size w w2 :=
  h.trans (k.mono h.size)

theorem rSize_val (n : Int) (w : World) (z : Nat) (hz : Hid (z = zc n)) :
    Calls Try.prog 46 #[.int .i64 n] w fun e w' => e = .returned (.int .i64 z) ∧ w = w' := by
  obtain ⟨M, hM⟩ : ∃ M, M = min n 8 := ⟨_, rfl⟩
  have hmn : ∀ W, (Builtin.min_ #[3, 3] 3 #[.int .i64 n, .int .i64 8]).run Try.prog W = .ok (.int .i64 M) W := by intro W; rw [run_min2, hM]
  have hmx : ∀ W, (Builtin.max_ #[3, 3] 3 #[.int .i64 0, .int .i64 M]).run Try.prog W = .ok (.int .i64 (z : Int)) W := by
    intro W
    rw [run_max2, show max 0 M = (z : Int) from by rw [hM, hz.out]; unfold zc; omega]
  clear hM
  go_enter Try.func46, Try.ntmps46
  go_wp2_with fail
  go_ret
  exact ⟨rfl, rfl⟩

theorem wput_snoc (n k : Nat) : wput n k ++ ⟨#[byteAt n k]⟩ = wput n (k + 1) := by
  apply ByteArray.ext
  rw [ByteArray.data_append]
  simp only [wput, wl_snoc]
  rw [← List.append_toArray]

set_option maxRecDepth 100000 in
set_option maxHeartbeats 4000000 in
theorem rPut_val (n : Nat) (size : Int) (w : World) (z : ByteArray) (hn : n < 18446744073709551616) (hz : Hid (z = wput n (zc size))) :
    Calls Try.prog 42 #[.int .u64 n, .int .i64 size] w fun e w' => e = .returned (.string z) ∧ Below w.heap.size w w' := by
  obtain ⟨K, hK⟩ : ∃ k, k = zc size := ⟨_, rfl⟩
  have hle : K ≤ 8 := by rw [hK]; exact zc_le size
  have hz2 : Hid (z = wput n K) := by rw [hK]; exact hz
  have hK' := Lib.hid hK
  clear hz hK
  go_enter Try.func42, Try.ntmps42
  go_wp2_with fail
  go_loopw [0, 5, 6] (fun nv sv c wr => ∃ (k m : Nat) (y : ByteArray), k ≤ K ∧ c = .int .i64 k ∧ nv = .int .u64 m ∧ sv = .string y ∧ m = n / 256 ^ k ∧ y = wput n k ∧ Below w.heap.size w wr) (fun _ _ c _ => K - (intOf c).toNat)
  case atStart => exact ⟨0, n, _, by omega, rfl, rfl, rfl, by simp, rfl, Below.refl _ _⟩
  case round =>
    obtain ⟨k, m, y, hk, rfl, rfl, rfl, hm, hy, hbel⟩ := hrel
    have hml : m < 18446744073709551616 := by rw [hm]; exact Nat.lt_of_le_of_lt (Nat.div_le_self _ _) hn
    have hys : y.size = k := by rw [hy, wput_size]
    have hby : m % 256 = (byteAt n k).toNat := by rw [byteAt_nat, hm]
    have hmn : m / 256 = n / 256 ^ (k + 1) := by rw [hm, Nat.div_div_eq_div_mul, Nat.pow_succ]
    have HM := Lib.hid hm
    have HY := Lib.hid hy
    have HMN := Lib.hid hmn
    clear hm hy hmn
    go_wp2_with fail
    refine (rSize_val size _ K hK').mono ?_; rintro e w1 ⟨rfl, rfl⟩
    by_cases hlt : k < K
    · obtain ⟨c, hc⟩ : ∃ c, c = byteAt n k := ⟨_, rfl⟩
      rw [← hc] at hby
      have hbi : ((m : Int) % 256) = (c.toNat : Int) := by omega
      have hbd : IntKind.u64.wrap ((m : Int).tdiv 256) = ((m / 256 : Nat) : Int) := by
        rw [show (m : Int).tdiv 256 = ((m / 256 : Nat) : Int) from rfl]
        exact IntWalk.u64_in _ (by omega)
      have HC := Lib.hid hc
      have hconv := conv_one0 wr c
      have hcc : (9223372036854775807 < y.size + 1) = False := eq_false (by omega)
      clear hby hc
      go_wp2_with fail
      go_roundw
      case rel => exact ⟨k + 1, m / 256, _, by omega, by go_num, rfl, rfl, HMN.out, by rw [HC.out, HY.out, wput_snoc], hbel.alloc hbel.size _⟩
      case measure => simp [intOf]; omega
    · obtain rfl : k = K := by omega
      have e : y = z := by rw [HY.out, hz2.out]
      subst e
      go_wp2_with fail
      go_ret
      exact ⟨rfl, hbel⟩

/-! the reference's Get -/
theorem wgl_drop (l : List UInt8) (k : Nat) (hk : k < l.length) : wgl (l.drop k) = l[k].toNat + 256 * wgl (l.drop (k + 1)) := by
  rw [List.drop_eq_getElem_cons hk, wgl]

set_option maxRecDepth 100000 in
theorem rGet_val (s : ByteArray) (w : World) (z : Nat) (hs : s.size ≤ 9223372036854775807) (hz : Hid (z = wget s)) :
    Calls Try.prog 47 #[.string s] w fun e w' => e = .returned (.int .u64 z) ∧ w = w' := by
  obtain ⟨M, hM⟩ : ∃ M : Nat, M = min s.size 8 := ⟨_, rfl⟩
  have hmn : ∀ W, (Builtin.min_ #[3, 3] 3 #[.int .i64 s.size, .int .i64 8]).run Try.prog W = .ok (.int .i64 (M : Int)) W := by
    intro W
    rw [run_min2, show min (s.size : Int) 8 = (M : Int) from by omega]
  obtain ⟨l, hl⟩ : ∃ l, l = s.data.toList.take 8 := ⟨_, rfl⟩
  have hll : l.length = M := by rw [hl, List.length_take, hM]; exact Nat.min_comm _ _
  have hM8 : M ≤ 8 := by omega
  have hMs : M ≤ s.size := by omega
  have hz2 : Hid (z = wgl l) := by rw [hl]; exact hz
  have hget : ∀ k (h : k < M), (h2 : k < s.size) → s[k] = l[k]'(Nat.lt_of_lt_of_eq h hll.symm) := by
    intro k h h2
    have e : l[k]'(Nat.lt_of_lt_of_eq h hll.symm) = s.data.toList[k]'(by exact h2) := by
      simp only [hl, List.getElem_take]
    rw [e]; rfl
  have HG := Lib.hid hget
  clear hl hM hz hget
  go_enter Try.func47, Try.ntmps47
  go_wp2_with fail
  clear hmn
  go_loop [3, 4] (fun v c => ∃ (k x : Nat), k ≤ M ∧ c = .int .i64 ((k : Int) - 1) ∧ v = .int .u64 x ∧ x = wgl (l.drop k)) (fun _ c => (intOf c + 1).toNat)
  case atStart => exact ⟨M, 0, by omega, by go_num, rfl, by rw [List.drop_of_length_le (by omega)]; rfl⟩
  case round =>
    obtain ⟨k, x, hk, rfl, rfl, hx⟩ := hrel
    have HX := Lib.hid hx
    clear hx
    by_cases h0 : 0 < k
    · obtain ⟨j, rfl⟩ : ∃ j, k = j + 1 := ⟨k - 1, by omega⟩
      have hjs : j < s.size := by omega
      obtain ⟨c, hc⟩ : ∃ c, c = s[j] := ⟨_, rfl⟩
      have hcn : c.toNat < 256 := c.toNat_lt
      obtain ⟨y, hy⟩ : ∃ y, y = wgl (l.drop j) := ⟨_, rfl⟩
      have hyx : y = c.toNat + 256 * x := by
        rw [hy, wgl_drop l j (by omega), HX.out, hc, HG.out j (by omega) hjs]
      have hyl : y < 18446744073709551616 := by
        have h1 := wgl_lt (l.drop j)
        have h2 : 256 ^ (l.drop j).length ≤ 256 ^ 8 := Nat.pow_le_pow_right (by omega) (by rw [List.length_drop]; omega)
        omega
      have hw1 : IntKind.u64.wrap ((x : Int) * 256) = ((x * 256 : Nat) : Int) := by
        rw [show (x : Int) * 256 = ((x * 256 : Nat) : Int) from by omega]
        exact IntWalk.u64_in _ (by omega)
      have hfin : IntKind.u64.wrap ((x : Int) * 256 + IntKind.u64.wrap (s[j].toNat : Int)) = (y : Int) := by
        rw [← hc, IntWalk.u64_in (c.toNat : Int) (by omega), show (x : Int) * 256 + (c.toNat : Int) = (y : Int) from by omega]
        exact IntWalk.u64_in _ (by omega)
      have HY := Lib.hid hy
      clear hy
      go_wp2_with fail
      go_round
      case rel => exact ⟨j, y, by omega, by go_num, by rw [← hc]; congr 1; omega, HY.out⟩
      case measure => simp [intOf]
    · obtain rfl : k = 0 := by omega
      have e : x = z := by rw [HX.out, hz2.out]; rfl
      subst e
      go_wp2_with fail
      go_ret
      exact ⟨rfl, rfl⟩

end Go.Proofs.Ytjkiofgllmjkcaa.G
