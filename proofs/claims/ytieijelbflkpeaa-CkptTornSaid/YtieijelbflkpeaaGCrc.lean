import Derived.Test.YtieijelbflkpeaaProg
import Derived.Test.YtieijelbflkpeaaGCrcm
import Derived.WalkKit
import Derived.KernelRfl
import Derived.Laws.Rows
import Derived.Deep.WholeRow
import Derived.Deep.LoopGhost
import Derived.Lib.Hide
namespace Go.Proofs.Ytieijelbflkpeaa.G
set_option linter.unusedVariables false
set_option linter.unusedSimpArgs false
open Go.RowKit Go.Proofs.Ytieijelbflkpeaa.CrcPlain

theorem u32_bits (x : B) : BitVec.ofInt 32 (x.toNat : Int) = x := by
  rw [BitVec.ofInt_natCast, BitVec.ofNat_toNat, BitVec.setWidth_eq]
theorem u32_wrap (x : B) : IntKind.u32.wrap (x.toNat : Int) = x.toNat := by
  have := x.isLt
  exact IntWalk.u32_in _ (by omega)
theorem u32_xor_bv (x y : B) : bits .xor .u32 (x.toNat : Int) (y.toNat : Int) = ((x ^^^ y).toNat : Int) := by
  show IntKind.u32.wrap ((BitVec.ofInt 32 (x.toNat : Int) ^^^ BitVec.ofInt 32 (y.toNat : Int)).toNat : Int) = _
  rw [u32_bits, u32_bits, u32_wrap]
theorem u32_and_bv (x y : B) : bits .and .u32 (x.toNat : Int) (y.toNat : Int) = ((x &&& y).toNat : Int) := by
  show IntKind.u32.wrap ((BitVec.ofInt 32 (x.toNat : Int) &&& BitVec.ofInt 32 (y.toNat : Int)).toNat : Int) = _
  rw [u32_bits, u32_bits, u32_wrap]
theorem u32_shr_bv (x : B) (n : Nat) : (x.toNat : Int) / ((2 ^ n : Nat) : Int) = ((x >>> n).toNat : Int) := by
  rw [BitVec.toNat_ushiftRight, Nat.shiftRight_eq_div_pow]; rfl
theorem low_bit (x : B) : (bits .and .u32 (x.toNat : Int) 1 == 1) = x.getLsbD 0 := by
  have h := u32_and_bv x 1#32
  have e : ((1#32 : B).toNat : Int) = 1 := rfl
  rw [e] at h
  have h2 : (x &&& 1#32).toNat = x.toNat % 2 := by rw [BitVec.toNat_and]; exact Nat.and_two_pow_sub_one_eq_mod x.toNat 1
  rw [h, h2]
  have h3 : x.getLsbD 0 = decide (x.toNat % 2 = 1) := by
    rw [BitVec.getLsbD, Nat.testBit_zero]
  rw [h3]
  have := Nat.mod_lt x.toNat (show 0 < 2 by omega)
  rw [Bool.eq_iff_iff]
  simp only [beq_iff_eq, decide_eq_true_eq]
  omega
theorem st_odd (x : B) (h : (bits .and .u32 (x.toNat : Int) 1 == 1) = true) : bits .xor .u32 ((x.toNat : Int) / 2) 3988292384 = ((st x).toNat : Int) := by
  rw [low_bit] at h
  have h1 := u32_shr_bv x 1
  have e : (((2 ^ 1 : Nat) : Int)) = 2 := rfl
  rw [e] at h1
  rw [h1, show (3988292384 : Int) = (poly.toNat : Int) from rfl, u32_xor_bv]
  unfold st
  rw [if_pos h]
theorem st_not (x : B) (h : (bits .and .u32 (x.toNat : Int) 1 == 1) = false) : (x.toNat : Int) / 2 = ((st x).toNat : Int) := by
  rw [low_bit] at h
  have h1 := u32_shr_bv x 1
  have e : (((2 ^ 1 : Nat) : Int)) = 2 := rfl
  rw [e] at h1
  rw [h1]
  unfold st
  rw [if_neg (by rw [h]; decide)]
theorem sts_next (m : Nat) : ∀ x : B, sts (m + 1) x = st (sts m x) := by
  induction m with
  | zero => intro x; rfl
  | succ m ih => intro x; rw [sts, ih]; rfl

def tv (x : B) : Value := .int .u32 (x.toNat : Int)
/-- the table, filled up to k -/
def tab (k : Nat) : Array Value := ((List.range 256).map fun i => if i < k then tv (sts 8 (BitVec.ofNat 32 i)) else .int .u32 0).toArray
theorem tab_size (k : Nat) : (tab k).size = 256 := by simp [tab]

theorem tab_next (k : Nat) (hk : k < 256) : (tab k).setIfInBounds k (tv (sts 8 (BitVec.ofNat 32 k))) = tab (k + 1) := by
  apply Array.ext
  · simp [tab]
  · intro i h1 h2
    rw [Array.size_setIfInBounds, tab_size] at h1
    by_cases e : k = i
    · subst e
      simp [tab, hk]
    · rw [Array.getElem_setIfInBounds (by rw [tab_size]; exact h1), if_neg e]
      simp only [tab, List.getElem_toArray, List.getElem_map, List.getElem_range]
      by_cases h : i < k
      · rw [if_pos h, if_pos (by omega)]
      · rw [if_neg h, if_neg (by omega)]
theorem tab_cell (k i : Nat) (hi : i < 256) : ∃ v, (tab k)[i]? = some v := ⟨_, Array.getElem?_eq_getElem (by rw [tab_size]; exact hi)⟩
theorem tab_at (i : Nat) (hi : i < 256) : (tab 256)[i]? = some (.int .u32 ((sts 8 (BitVec.ofNat 32 i)).toNat : Int)) := by
  rw [Array.getElem?_eq_getElem (by rw [tab_size]; exact hi)]
  simp [tab, hi, tv]
theorem tab_one (k : Nat) : (tab k).all (·.oneCell') = true := by
  rw [Array.all_eq_true_iff_forall_mem]
  intro v hv
  simp only [tab, List.mem_toArray, List.mem_map, List.mem_range] at hv
  obtain ⟨i, _, rfl⟩ := hv
  split <;> rfl
theorem tab_info : (Try.prog.info? 70).map (·.size) = some 256 := by kernel_rfl

theorem zero_tab (W : World) : (zeroValue 70).run Try.prog W = .ok (.agg (tab 0)) W := by kernel_rfl

set_option maxRecDepth 100000 in
theorem rests_any (w : World) : Calls Try.prog 35 #[] w fun e w' => e = .returned (.agg (tab 256)) ∧ Below w.heap.size w w' := by
  have hz := zero_tab
  go_enter Try.func35, Try.ntmps35
  go_wp2_with fail
  clear hz
  go_loopw [4] (fun c wr => ∃ k : Nat, k ≤ 256 ∧ c = .int .i64 k ∧ wr.heap[w.heap.size + 1]? = some (.cells (tab k) 70 (0, 0)) ∧ wr.heap[w.heap.size]? = some (.cells (tab 0) 70 (0, 0)) ∧ Below w.heap.size w wr) (fun c _ => 256 - (intOf c).toNat)
  case atStart =>
    refine ⟨0, by omega, rfl, ?_, ?_, ?_⟩
    · exact heap_alloc2_new _ _ _
    · exact heap_alloc2_old _ _ _
    · exact ((Below.refl _ _).alloc (Nat.le_refl _) _).alloc (by simp) _
  case round =>
    obtain ⟨k, hk, rfl, hb, h0, hbel⟩ := hrel
    by_cases hlt : k < 256
    · go_wp2_with fail
      obtain ⟨v, hv⟩ := tab_cell k k hlt
      have hcell : wr.cell? ⟨w.heap.size + 1, k, none⟩ = some v := (cell_of_row wr _ k _ _ _ hb).trans hv
      have hfr : wr.frozen? ⟨w.heap.size + 1, k, none⟩ = false := frozen_of_row wr _ k _ _ hb
      have HB := Lib.hid hb
      have H0 := Lib.hid h0
      clear hb h0 hv
      go_loop [3, 9] (fun r j => ∃ (m : Nat) (x : B), m ≤ 8 ∧ j = .int .i64 m ∧ x = sts m (BitVec.ofNat 32 k) ∧ r = .int .u32 (x.toNat : Int)) (fun _ j => 8 - (intOf j).toNat)
      case atStart => exact ⟨0, BitVec.ofNat 32 k, by omega, rfl, rfl, by simp [BitVec.toNat_ofNat]; omega⟩
      case round =>
        obtain ⟨m, x, hm, rfl, hx, rfl⟩ := hrel
        have HX := Lib.hid hx
        clear hx
        have hx32 := x.isLt
        by_cases hm8 : m < 8
        · go_wp2_with fail
          · have ht : (bits .and .u32 (x.toNat : Int) 1 == 1) = true := by assumption
            go_round
            case rel => exact ⟨m + 1, st x, by omega, by go_num, by rw [HX.out, sts_next], by rw [st_odd x ht]⟩
            case measure => simp [intOf]; omega
          · have ht : (bits .and .u32 (x.toNat : Int) 1 == 1) = false := by assumption
            go_round
            case rel => exact ⟨m + 1, st x, by omega, by go_num, by rw [HX.out, sts_next], by rw [st_not x ht]⟩
            case measure => simp [intOf]; omega
        · obtain rfl : m = 8 := by omega
          go_wp2_with fail
          go_roundw
          case rel =>
            refine ⟨k + 1, by omega, by go_num, ?_, ?_, ?_⟩
            · rw [heap_setCell_same _ _ _ _ _ _ HB.out, HX.out]
              have := tab_next k hlt
              simp only [tv] at this
              rw [this]
            · rw [heap_setCell_other _ _ _ _ (by simp)]; exact H0.out
            · exact hbel.setCell (by simp) _
          case measure => simp [intOf]; omega
    · obtain rfl : k = 256 := by omega
      go_wp2_with (first | (refine wpList_load_row rfl 70 _ rfl _ rfl _ _ (0, 0) _ hb Try.underlying70 rfl tab_info ?_) | (refine wpList_store_row rfl 70 _ _ rfl _ _ rfl rfl _ _ h0 tab_info rfl (tab_one _) ?_))
      refine bodyPost_ret (v := .agg (tab 256)) ?_ rfl ⟨rfl, ?_⟩
      · exact results_cell_row (p := 0) (ty := 70) rfl _ _ w.heap.size 70 _ (0, 0) _ rfl (setRow_heap _ _ _ _ _ _ h0) Try.underlying70 rfl tab_info
      · exact hbel.trans ⟨rfl, rfl, rfl, by simp, fun i hi => setRow_other _ _ _ _ (by omega)⟩

/-- the state behind bytes -/
def bl (s : ByteArray) : List (BitVec 8) := s.data.toList.map (·.toBitVec)
theorem not_bv (x : B) : bits .xor .u32 IntKind.u32.max (x.toNat : Int) = ((~~~x).toNat : Int) := by
  have h := u32_xor_bv (4294967295#32) x
  have e : (((4294967295#32 : B)).toNat : Int) = 4294967295 := rfl
  rw [e] at h
  rw [show IntKind.u32.max = 4294967295 from rfl, h, show (4294967295#32 : B) = BitVec.allOnes 32 from rfl, BitVec.allOnes_xor]

theorem idx_bv (x : B) (c : UInt8) : bits .xor .u8 ((x.toNat : Int) % 256) (c.toNat : Int) = ((x.setWidth 8 ^^^ c.toBitVec).toNat : Int) := by
  have h8 : ∀ z : BitVec 8, BitVec.ofInt 8 (z.toNat : Int) = z := fun z => by rw [BitVec.ofInt_natCast, BitVec.ofNat_toNat, BitVec.setWidth_eq]
  have e : (x.toNat : Int) % 256 = ((x.setWidth 8).toNat : Int) := by rw [BitVec.toNat_setWidth]; rfl
  have e2 : (c.toNat : Int) = (c.toBitVec.toNat : Int) := rfl
  rw [e, e2]
  show IntKind.u8.wrap ((BitVec.ofInt 8 _ ^^^ BitVec.ofInt 8 _).toNat : Int) = _
  rw [h8, h8]
  have := (x.setWidth 8 ^^^ c.toBitVec).isLt
  exact IntWalk.u8_in _ (by omega)
theorem by8_of (y : BitVec 8) : BitVec.ofNat 32 y.toNat = by8 y := by
  apply BitVec.eq_of_toNat_eq
  simp [by8, BitVec.toNat_setWidth]
theorem step_bv (x : B) (y : BitVec 8) : bits .xor .u32 ((sts 8 (by8 y)).toNat : Int) ((x.toNat : Int) / 256) = ((sts 8 (by8 y) ^^^ x >>> 8).toNat : Int) := by
  have h1 := u32_shr_bv x 8
  have e : (((2 ^ 8 : Nat) : Int)) = 256 := rfl
  rw [e] at h1
  rw [h1, u32_xor_bv]
theorem bl_length (s : ByteArray) : (bl s).length = s.size := by simp [bl]
theorem bl_take (s : ByteArray) (k : Nat) (h : k < s.size) : (bl s).take (k + 1) = (bl s).take k ++ [s[k].toBitVec] := by
  rw [List.take_succ_eq_append_getElem (by rw [bl_length]; exact h)]
  congr 2
  simp only [bl, List.getElem_map]; rfl
theorem crcs_snoc (r : B) (l : List (BitVec 8)) (c : BitVec 8) : crcs r (l ++ [c]) = one (crcs r l) c := by rw [crcs_append]; rfl

set_option maxRecDepth 100000 in
theorem More_any (sum : B) (s : ByteArray) (w : World) (hs : s.size ≤ 9223372036854775807) : Calls Try.prog 32 #[.int .u32 (sum.toNat : Int), .string s] w fun e w' => e = .returned (.int .u32 ((~~~(crcs (~~~sum) (bl s))).toNat : Int)) ∧ Below w.heap.size w w' := by
  obtain ⟨r0, hr0⟩ : ∃ r0, r0 = ~~~sum := ⟨_, rfl⟩
  have hn := not_bv sum
  rw [← hr0] at hn ⊢
  clear hr0
  obtain ⟨R, hR⟩ : ∃ R, R = ~~~(crcs r0 (bl s)) := ⟨_, rfl⟩
  rw [← hR]
  have HR := Lib.hid hR
  clear hR
  have hz := zero_tab
  go_enter Try.func32, Try.ntmps32
  go_wp2_with (first | (go_at_call 35; refine (rests_any _).mono ?_; rintro e w1 ⟨rfl, hbel⟩) | (refine wpList_store_row rfl 70 _ _ rfl _ _ rfl rfl _ _ (heap_alloc_new _ _) tab_info rfl (tab_one _) ?_; rw [World.setRow_alloc_new]))
  clear hn hz
  go_loop [6, 13] (fun r j => ∃ (k : Nat) (x : B), k ≤ s.size ∧ j = .int .i64 k ∧ x = crcs r0 ((bl s).take k) ∧ r = .int .u32 (x.toNat : Int)) (fun _ j => s.size - (intOf j).toNat)
  case atStart => exact ⟨0, r0, by omega, rfl, rfl, rfl⟩
  case round =>
    obtain ⟨k, x, hk, rfl, hx, rfl⟩ := hrel
    have HX := Lib.hid hx
    clear hx
    have hx32 := x.isLt
    by_cases hlt : k < s.size
    · have hidx := idx_bv x s[k]
      obtain ⟨y, hy⟩ : ∃ y, y = x.setWidth 8 ^^^ s[k].toBitVec := ⟨_, rfl⟩
      rw [← hy] at hidx
      have HY := Lib.hid hy
      clear hy
      have hstep := step_bv x y
      obtain ⟨t, ht⟩ : ∃ t, t = sts 8 (by8 y) := ⟨_, rfl⟩
      rw [← ht] at hstep
      have hcell : (w1.alloc (.cells (tab 256) 70)).cell? ⟨w1.heap.size, y.toNat, none⟩ = some (.int .u32 (t.toNat : Int)) := by
        rw [cell_of_row _ _ _ _ _ _ (heap_alloc_new _ _), tab_at _ y.isLt, ht, by8_of]
      have HT := Lib.hid ht
      clear ht
      have hy8 := y.isLt
      go_wp2_with fail
      go_round
      case rel =>
        refine ⟨k + 1, t ^^^ x >>> 8, by omega, by go_num, ?_, by first | rw [hstep] | simp⟩
        rw [bl_take s k hlt, crcs_snoc, one_table, ← HX.out, ← HY.out, HT.out]
      case measure => simp [intOf]; omega
    · have hnx := not_bv x
      obtain ⟨z, hzz⟩ : ∃ z, z = ~~~x := ⟨_, rfl⟩
      rw [← hzz] at hnx
      have HZ := Lib.hid hzz
      clear hzz
      obtain rfl : k = s.size := by omega
      go_wp2_with fail
      go_ret
      refine ⟨?_, hbel.alloc hbel.size _⟩
      rw [HR.out, ← List.take_of_length_le (i := s.size) (l := bl s) (by rw [bl_length]; omega), ← HX.out, ← HZ.out]; rfl

/-- the state behind zeros -/
def zs (n : Nat) : List (BitVec 8) := List.replicate n 0#8
/-- as many zeros as count -/
def zn (n : Int) : Nat := (min (max n 0) 100000).toNat
theorem zs_next (k : Nat) : zs (k + 1) = zs k ++ [0#8] := by simp [zs, List.replicate_succ']

theorem low_bv (x : B) : (x.toNat : Int) % 256 = ((x.setWidth 8).toNat : Int) := by rw [BitVec.toNat_setWidth]; rfl

/-! In the print's form. -/
def crc_More.f (a0 : Int) (a1 : ByteArray) : Option (Int) := if 0 ≤ a0 ∧ a0 < 4294967296 ∧ a1.size ≤ 9223372036854775807 then some ((~~~(crcs (~~~(BitVec.ofInt 32 a0)) (bl a1))).toNat : Int) else none
theorem u32_of (a0 : Int) (h0 : 0 ≤ a0) (h1 : a0 < 4294967296) : a0 = ((BitVec.ofInt 32 a0).toNat : Int) := by
  obtain ⟨n, rfl⟩ := Int.eq_ofNat_of_zero_le h0
  rw [BitVec.ofInt_natCast, BitVec.toNat_ofNat, Nat.mod_eq_of_lt (by omega)]
theorem crc_More.calls (a0 : Int) (a1 : ByteArray) (r : Int) (w : World) (h : crc_More.f a0 a1 = some r) :
    Calls Try.prog 32 #[.int .u32 a0, .string a1] w fun e w' => e = .returned (.int .u32 r) ∧ Below w.heap.size w w' := by
  unfold crc_More.f at h
  split at h
  · rename_i hc
    obtain ⟨h0, h1, h2⟩ := hc
    injection h with h
    subst h
    have hu := u32_of a0 h0 h1
    have := More_any (BitVec.ofInt 32 a0) a1 w h2
    rw [← hu] at this
    exact this
  · cases h
end Go.Proofs.Ytieijelbflkpeaa.G
