/- What the printed functions of the reference come to, in plain words: the state of 32 bits behind bytes, behind zeros. -/
import Derived.Test.YtdmmbbibaodknaaPx1
import Derived.Test.YtdmmbbibaodknaaGCrc
namespace Go.Proofs.Ytdmmbbibaodknaa.CrcPure
open Go.RowKit Go.Proofs.Ytdmmbbibaodknaa.P Go.Proofs.Ytdmmbbibaodknaa.G Go.Proofs.Ytdmmbbibaodknaa.CrcPlain Go.Proofs.YtdmmbbibaodknaaW.PrintWords Go.Proofs.YtdmmbbibaodknaaW.PrintLast
set_option linter.unusedVariables false
set_option linter.unusedSimpArgs false

theorem fixed_ok : lodgerlaw02_fixed.f = some true := by decide +kernel

theorem wrap_small (i : Int) (h0 : 0 ≤ i) (h1 : i ≤ 9223372036854775806) : wrap64 (i + 1) = i + 1 := by unfold wrap64; omega

theorem one_l0 (d : Nat) : ∀ (k : Nat) (x : B) (i : Nat), i + d = 8 → d < k → lodgerref02_one.l0 k (x.toNat : Int) (i : Int) = some ((sts d x).toNat : Int) := by
  induction d with
  | zero =>
    intro k x i hi hk
    obtain ⟨k, rfl⟩ : ∃ m, k = m + 1 := ⟨k - 1, by omega⟩
    simp only [lodgerref02_one.l0]; rw [if_neg (by omega)]; rfl
  | succ d ih =>
    intro k x i hi hk
    obtain ⟨k, rfl⟩ : ∃ m, k = m + 1 := ⟨k - 1, by omega⟩
    have hx := x.isLt
    have e1 : Int.tmod (x.toNat : Int) 2 = (x.toNat : Int) % 2 := Int.tmod_eq_emod_of_nonneg (by omega)
    have e2 : (Int.tdiv (x.toNat : Int) 2) % 4294967296 = (x.toNat : Int) / 2 := by rw [Int.tdiv_eq_ediv_of_nonneg (by omega)]; omega
    have hb : x.getLsbD 0 = decide ((x.toNat : Int) % 2 = 1) := by
      rw [BitVec.getLsbD, Nat.testBit_zero, Bool.eq_iff_iff]; simp only [decide_eq_true_eq]; omega
    simp only [lodgerref02_one.l0]
    rw [if_pos (by omega), e1, e2, wrap_small _ (by omega) (by omega)]
    by_cases h : (x.toNat : Int) % 2 = 1
    · rw [if_pos h, st_odd x (by rw [low_bit, hb]; simpa using h)]
      exact ih k (st x) (i + 1) (by omega) (by omega)
    · rw [if_neg h, st_not x (by rw [low_bit, hb]; simpa using h)]
      exact ih k (st x) (i + 1) (by omega) (by omega)

theorem one_f (k : Nat) (hk : 8 < k) (x : B) (c : UInt8) : lodgerref02_one.f k (x.toNat : Int) (c.toNat : Int) = some ((one x c.toBitVec).toNat : Int) := by
  unfold lodgerref02_one.f
  have hc := c.toNat_lt
  have e : ((c.toNat : Int) % 4294967296) = ((by8 c.toBitVec).toNat : Int) := by
    simp only [by8, BitVec.toNat_setWidth]
    show _ = ((c.toNat % 2 ^ 32 : Nat) : Int)
    omega
  rw [e, u32_xor_bv]
  exact one_l0 8 k _ 0 rfl hk

theorem flip (x : B) : bits .xor .u32 (x.toNat : Int) 4294967295 = ((~~~x).toNat : Int) := by
  have h := u32_xor_bv x (4294967295#32)
  have e : (((4294967295#32 : B)).toNat : Int) = 4294967295 := rfl
  rw [e] at h
  rw [h, show (4294967295#32 : B) = BitVec.allOnes 32 from rfl, BitVec.xor_allOnes]

theorem bt_nat (s : ByteArray) (i : Nat) (h : i < s.size) : bt s (i : Int) = (s[i].toNat : Int) := (bt_at s i h).symm

theorem More_l0 (s : ByteArray) (hs : s.size ≤ 9223372036854775806) (d : Nat) : ∀ (k : Nat) (x : B) (i : Nat), i + d = s.size → d + 9 < k →
    lodgerref02_More.l0 k s (x.toNat : Int) (i : Int) = some ((~~~(crcs x ((bl s).drop i))).toNat : Int) := by
  induction d with
  | zero =>
    intro k x i hi hk
    obtain ⟨k, rfl⟩ : ∃ m, k = m + 1 := ⟨k - 1, by omega⟩
    simp only [lodgerref02_More.l0]; rw [if_neg (show ¬ ((i : Int) < (s.size : Int)) by omega), flip, List.drop_of_length_le (l := bl s) (i := i) (by rw [bl_length]; omega)]; rfl
  | succ d ih =>
    intro k x i hi hk
    obtain ⟨k, rfl⟩ : ∃ m, k = m + 1 := ⟨k - 1, by omega⟩
    simp only [lodgerref02_More.l0]
    rw [if_pos (show (i : Int) < (s.size : Int) by omega), if_pos (show (0 : Int) ≤ (i : Int) by omega), bt_nat s i (by omega), one_f k (by omega)]
    simp only [Option.bind_some]
    rw [wrap_small _ (by omega) (by omega), show ((i : Int) + 1) = ((i + 1 : Nat) : Int) from rfl, ih k _ (i + 1) (by omega) (by omega)]
    have hd := List.drop_eq_getElem_cons (l := bl s) (i := i) (by rw [bl_length]; omega)
    have hg : (bl s)[i]'(by rw [bl_length]; omega) = s[i].toBitVec := by simp only [bl, List.getElem_map]; rfl
    rw [hd, hg]; rfl

theorem More_f (k : Nat) (x : B) (s : ByteArray) (hs : s.size ≤ 9223372036854775806) (hk : s.size + 9 < k) : lodgerref02_More.f k (x.toNat : Int) s = some ((~~~(crcs (~~~x) (bl s))).toNat : Int) := by
  unfold lodgerref02_More.f
  rw [flip]
  have := More_l0 s hs s.size k (~~~x) 0 (by omega) hk
  simpa using this

theorem Zeros_l0 (n : Int) (d : Nat) : ∀ (k : Nat) (x : B) (i : Nat), i + d = zn n → d + 9 < k →
    lodgerref02_Zeros.l0 k n (x.toNat : Int) (i : Int) = some ((~~~(crcs x (zs d))).toNat : Int) := by
  induction d with
  | zero =>
    intro k x i hi hk
    obtain ⟨k, rfl⟩ : ∃ m, k = m + 1 := ⟨k - 1, by omega⟩
    simp only [lodgerref02_Zeros.l0]
    unfold zn at hi
    rw [flip]
    by_cases h : (i : Int) < n
    · rw [if_pos h, if_neg (by omega)]; rfl
    · rw [if_neg h]; rfl
  | succ d ih =>
    intro k x i hi hk
    obtain ⟨k, rfl⟩ : ∃ m, k = m + 1 := ⟨k - 1, by omega⟩
    simp only [lodgerref02_Zeros.l0]
    have h1 : (i : Int) < n ∧ (i : Int) < 100000 := by unfold zn at hi; omega
    have ho := one_f k (by omega) x 0
    have e0 : ((0 : UInt8).toNat : Int) = 0 := rfl
    rw [e0] at ho
    rw [if_pos h1.1, if_pos h1.2, ho]
    simp only [Option.bind_some]
    rw [wrap_small _ (by omega) (by omega), show ((i : Int) + 1) = ((i + 1 : Nat) : Int) from rfl, ih k _ (i + 1) (by omega) (by omega)]
    rfl

theorem Zeros_f (k : Nat) (x : B) (n : Int) (hk : zn n + 9 < k) : lodgerref02_Zeros.f k (x.toNat : Int) n = some ((~~~(crcs (~~~x) (zs (zn n)))).toNat : Int) := by
  unfold lodgerref02_Zeros.f
  rw [flip]
  exact Zeros_l0 n (zn n) k (~~~x) 0 (by omega) hk

/-! What the program's functions come to. -/
theorem pMore (x : B) (s : ByteArray) (hs : s.size ≤ 9223372036854775806) : crc_More.f (x.toNat : Int) s = some ((~~~(crcs (~~~x) (bl s))).toNat : Int) := by
  have := x.isLt
  unfold crc_More.f
  rw [if_pos ⟨by omega, by omega, by omega⟩, u32_bits]
theorem pZeros (x : B) (n : Int) : crc_Zeros.f (x.toNat : Int) n = some ((~~~(crcs (~~~x) (zs (zn n)))).toNat : Int) := by
  have := x.isLt
  unfold crc_Zeros.f
  rw [if_pos ⟨by omega, by omega⟩, u32_bits]
theorem pSum (s : ByteArray) (hs : s.size ≤ 9223372036854775806) : crc_Sum.f s = some ((~~~(crcs (~~~(0#32)) (bl s))).toNat : Int) := by
  unfold crc_Sum.f
  have := pMore 0#32 s hs
  have e : ((0#32 : B).toNat : Int) = 0 := rfl
  rw [e] at this
  rw [this]; rfl
theorem Sum_f (k : Nat) (s : ByteArray) (hs : s.size ≤ 9223372036854775806) (hk : s.size + 9 < k) : lodgerref02_Sum.f k s = some ((~~~(crcs (~~~(0#32)) (bl s))).toNat : Int) := by
  unfold lodgerref02_Sum.f
  have := More_f k 0#32 s hs hk
  have e : ((0#32 : B).toNat : Int) = 0 := rfl
  rw [e] at this
  rw [this]; rfl
theorem of_wf (a : Int) (h : (Lit.int .u32 a).wf = true) : ∃ x : B, a = (x.toNat : Int) := by
  refine ⟨BitVec.ofInt 32 a, ?_⟩
  have h2 : 0 ≤ a ∧ a < 4294967296 := by
    simp [Lit.wf, IntKind.min, IntKind.max, IntKind.bits, IntKind.signed] at h
    omega
  exact u32_of a h2.1 h2.2
end Go.Proofs.Ytdmmbbibaodknaa.CrcPure
