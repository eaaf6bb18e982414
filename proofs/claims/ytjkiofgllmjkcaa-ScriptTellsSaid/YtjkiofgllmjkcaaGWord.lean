/- Contracts of package word: Put, Get, Add, Mul, Less. -/
import Derived.Test.YtjkiofgllmjkcaaProg
import Derived.Test.YtjkiofgllmjkcaaGWordm
import Derived.Test.YtjkiofgllmjkcaaGBytes
import Derived.WalkKit
import Derived.KernelRfl
import Derived.Laws.Rows
import Derived.Laws.CopyRow
import Derived.Deep.WholeRow
import Derived.Deep.LoopGhost
import Derived.Lib.Hide
import Derived.Lib.Mul64
import Derived.Laws.Bits64b
import Derived.Laws.Externs
namespace Go.Proofs.Ytjkiofgllmjkcaa.G
open Go.RowKit Go.Proofs.Ytjkiofgllmjkcaa.WordPlain
set_option linter.unusedVariables false
set_option linter.unusedSimpArgs false

/-- the array, filled up to k -/
def pc (n k : Nat) : Array Value := ((List.range 8).map fun i => if i < k then .int .u8 ((byteAt n i).toNat : Int) else .int .u8 0).toArray
theorem pc_size (n k : Nat) : (pc n k).size = 8 := by simp [pc]
theorem pc_next (n k : Nat) (hk : k < 8) : (pc n k).setIfInBounds k (.int .u8 ((byteAt n k).toNat : Int)) = pc n (k + 1) := by
  apply Array.ext
  · simp [pc]
  · intro i h1 h2
    rw [Array.size_setIfInBounds, pc_size] at h1
    by_cases e : k = i
    · subst e
      simp [pc, hk]
    · rw [Array.getElem_setIfInBounds (by rw [pc_size]; exact h1), if_neg e]
      simp only [pc, List.getElem_toArray, List.getElem_map, List.getElem_range]
      by_cases h : i < k
      · rw [if_pos h, if_pos (by omega)]
      · rw [if_neg h, if_neg (by omega)]
theorem pc_cell (n k i : Nat) (hi : i < 8) : ∃ v, (pc n k)[i]? = some v := ⟨_, Array.getElem?_eq_getElem (by rw [pc_size]; exact hi)⟩
theorem pc_at (n i : Nat) (hi : i < 8) : (pc n 8)[i]? = some (.int .u8 ((byteAt n i).toNat : Int)) := by
  rw [Array.getElem?_eq_getElem (by rw [pc_size]; exact hi)]
  simp [pc, hi]
theorem pc_zero (n : Nat) : pc n 0 = #[.int .u8 0, .int .u8 0, .int .u8 0, .int .u8 0, .int .u8 0, .int .u8 0, .int .u8 0, .int .u8 0] := rfl
theorem wput_get (n k j : Nat) (hj : j < (wput n k).size) : (wput n k)[j] = byteAt n j := by
  show ((wl n k).toArray)[j]'(by simpa [wput, ByteArray.size] using hj) = _
  simp [wl]
theorem shr_byte (n k : Nat) (hk : k < 8) : ((n : Int) / 2 ^ (8 * (k : Int)).toNat) % 256 = ((byteAt n k).toNat : Int) := by
  rw [byteAt_nat]
  have e : (8 * (k : Int)).toNat = 8 * k := by omega
  rw [e]
  have e2 : (2 : Int) ^ (8 * k) = ((256 ^ k : Nat) : Int) := by
    rw [show (256 : Nat) = 2 ^ 8 from rfl, ← Nat.pow_mul]; norm_cast
  rw [e2]; rfl

set_option maxRecDepth 100000 in
theorem Put_val (n : Nat) (size : Int) (w : World) (z : ByteArray) (hn : n < 18446744073709551616) (hz : Hid (z = wput n (zc size))) :
    Calls Try.prog 40 #[.int .u64 n, .int .i64 size] w fun e w' => e = .returned (.string z) ∧ Below w.heap.size w w' := by
  obtain ⟨k8, hk8⟩ : ∃ k, k = zc size := ⟨_, rfl⟩
  have hle : k8 ≤ 8 := by rw [hk8]; exact zc_le size
  obtain ⟨M, hM⟩ : ∃ M, M = max size 0 := ⟨_, rfl⟩
  have hmx : ∀ W, (Builtin.max_ #[3, 3] 3 #[.int .i64 size, .int .i64 0]).run Try.prog W = .ok (.int .i64 M) W := by intro W; rw [run_max2, hM]
  have hmn : ∀ W, (Builtin.min_ #[3, 3] 3 #[.int .i64 M, .int .i64 8]).run Try.prog W = .ok (.int .i64 (k8 : Int)) W := by
    intro W
    rw [run_min2, show min M 8 = (k8 : Int) from by rw [hM, hk8]; unfold zc; omega]
  rw [← hk8] at hz
  clear hk8 hM
  go_enter Try.func40, Try.ntmps40
  go_wp2_with fail
  clear hmx hmn
  go_loopw [10] (fun c wr => ∃ k : Nat, k ≤ 8 ∧ c = .int .i64 k ∧ wr.heap[w.heap.size]? = some (.cells (pc n k) 81 (0, 0)) ∧ Below w.heap.size w wr ∧ w.heap.size < wr.heap.size) (fun c _ => 8 - (intOf c).toNat)
  case atStart => exact ⟨0, by omega, rfl, heap_alloc_new _ _, (Below.refl _ _).alloc (Nat.le_refl _) _, by simp⟩
  case round =>
    obtain ⟨k, hk, rfl, hb, hbel, hlt⟩ := hrel
    by_cases hk8 : k < 8
    · obtain ⟨v, hv⟩ := pc_cell n k k hk8
      have hcell : wr.cell? ⟨w.heap.size, k, none⟩ = some v := (cell_of_row wr _ k _ _ _ hb).trans hv
      have hfr : wr.frozen? ⟨w.heap.size, k, none⟩ = false := frozen_of_row wr _ k _ _ hb
      have hsh := shr_byte n k hk8
      have HB := Lib.hid hb
      clear hb hv
      go_wp2_with fail
      go_roundw
      case rel =>
        refine ⟨k + 1, by omega, by go_num, ?_, hbel.setCell (Nat.le_refl _) _, by simpa [World.setCell] using hlt⟩
        have e : ((n : Int) / 2 ^ (8 * k) % 256) = ((byteAt n k).toNat : Int) := by
          rw [← hsh]
          congr 3
        rw [heap_setCell_same _ _ _ _ _ _ HB.out, e, pc_next n k hk8]
      case measure => simp [intOf]; omega
    · obtain rfl : k = 8 := by omega
      have hsl := slice_array_hm (P := Try.prog) wr 81 5 8 w.heap.size k8 Try.underlying81 (by kernel_rfl) hle
      have hat : BytesAt wr w.heap.size (wput n k8) := by
        refine ⟨fun j hj => ?_, fun j hj => frozen_of_row wr _ j _ _ hb⟩
        have hj' : j < k8 := by rw [wput_size] at hj; exact hj
        rw [cell_of_row wr _ j _ _ _ hb, pc_at n j (by omega)]
        rw [wput_get n k8 j hj]
      have hback : (convert 80 9 (.slice (some ⟨w.heap.size, 0, none⟩) k8 k8)).run Try.prog wr = .ok (.string z) wr := by
        have h := bytes_back (P := Try.prog) hat 80 9 5 k8 Try.underlying80 Try.underlying5 Try.underlying9
        rw [wput_size] at h
        rw [h, hz.out]
      clear hat
      go_wp2_with fail
      go_ret
      exact ⟨rfl, hbel⟩

/-! Get -/
def bvs (l : List UInt8) : List Value := l.map fun (c : UInt8) => Value.int .u8 (c.toNat : Int)
theorem bvs_length (l : List UInt8) : (bvs l).length = l.length := by simp [bvs]
/-- the array behind the copy of l, of which the first 8 count -/
def gc (l : List UInt8) : Array Value := (bvs (l.take 8) ++ List.replicate (8 - (l.take 8).length) (Value.int .u8 0)).toArray
theorem gc_at (l : List UInt8) (i : Nat) (hi : i < 8) : (gc l)[i]? = some (.int .u8 ((l.getD i 0).toNat : Int)) := by
  unfold gc
  rw [List.getElem?_toArray, List.getElem?_append]
  by_cases h : i < l.length
  · rw [if_pos (by rw [bvs_length, List.length_take]; omega)]
    simp [bvs, hi, h]
  · rw [if_neg (by rw [bvs_length, List.length_take]; omega), List.getElem?_replicate]
    have : i - (bvs (l.take 8)).length < 8 - (l.take 8).length := by rw [bvs_length, List.length_take]; omega
    rw [if_pos this]
    simp [List.getElem?_eq_none (show l.length ≤ i by omega)]

theorem run_copy_str {P : Program} (w : World) (dT sT ty elem : TypeId) (g dLen dCap : Nat) (s : ByteArray) (cur : Array Value) (t : TypeId)
    (hu : P.underlying dT = some (.slice elem)) (hs : (P.info? elem).map (·.size) = some 1) (hg : w.heap[g]? = some (.cells cur t (0, 0))) (hfit : dLen ≤ cur.size) :
    (Builtin.copy_ #[dT, sT] ty #[.slice (some ⟨g, 0, none⟩) dLen dCap, .string s]).run P w =
      .ok (goInt ((min s.size dLen : Nat) : Int)) (w.setRow g ((s.data.toList.take dLen).map (fun c => Value.int .u8 (c.toNat : Int)) ++ cur.toList.drop (min s.size dLen)).toArray) := by
  have hsz : s.data.toList.length = s.size := rfl
  have hmin : Nat.min s.size dLen = min s.size dLen := rfl
  have hlen : ((s.data.toList.take dLen).map (fun c => Value.int .u8 (c.toNat : Int))).length = min s.size dLen := by rw [List.length_map, List.length_take, hsz]; omega
  have hst := run_storeCells_at P g 0 t ((s.data.toList.take dLen).map (fun c => Value.int .u8 (c.toNat : Int))) 0 cur w hg (by rw [hlen]; omega) (by
    intro v hv
    obtain ⟨c, _, rfl⟩ := List.mem_map.1 hv
    rfl)
  have htk : List.take (min s.size dLen) (List.map (fun b : UInt8 => Value.int IntKind.u8 (b.toNat : Int)) s.data.toList) = (s.data.toList.take dLen).map (fun c => Value.int .u8 (c.toNat : Int)) := by
    rw [← List.map_take]
    congr 1
    by_cases h : s.size ≤ dLen
    · rw [List.take_of_length_le (by rw [hsz]; omega), List.take_of_length_le (by rw [hsz]; omega)]
    · rw [show min s.size dLen = dLen by omega]
  rw [hlen] at hst
  simp only [Nat.add_zero, Nat.zero_add, List.take_zero, List.nil_append] at hst
  cases hq : P.info? elem with
  | none => simp [hq] at hs
  | some i =>
    simp [Builtin.copy_, run_underlying hu, Builtin.lenOf, Builtin.firstCells, sizeOf, typeInfo, hq, hmin]
    rw [htk, hst]
    simp [Result.andThen]

def pad (l : List UInt8) : List UInt8 := (List.range 8).map fun i => l.getD i 0
theorem pad_length (l : List UInt8) : (pad l).length = 8 := by simp [pad]
theorem pad_take (l : List UInt8) (k : Nat) (hk : k < 8) : (pad l).take (k + 1) = (pad l).take k ++ [l.getD k 0] := by
  rw [List.take_succ_eq_append_getElem (by rw [pad_length]; exact hk)]
  simp [pad]
theorem wgl_zeros : ∀ n, wgl (List.replicate n 0) = 0
  | 0 => rfl
  | n + 1 => by rw [List.replicate_succ, wgl, wgl_zeros n]; rfl
theorem wgl_pad (l : List UInt8) : wgl (pad l) = wgl (l.take 8) := by
  have e : pad l = l.take 8 ++ List.replicate (8 - (l.take 8).length) 0 := by
    apply List.ext_getElem?
    intro i
    by_cases h8 : i < 8
    · simp only [pad, List.getElem?_map, List.getElem?_range h8, Option.map_some, List.getElem?_append]
      by_cases h : i < l.length
      · rw [if_pos (by rw [List.length_take]; omega)]
        simp [h8, h, List.getElem?_take]
      · rw [if_neg (by rw [List.length_take]; omega), List.getElem?_replicate, if_pos (by rw [List.length_take]; omega)]
        simp [List.getElem?_eq_none (show l.length ≤ i by omega)]
    · rw [List.getElem?_eq_none (by rw [pad_length]; omega), List.getElem?_eq_none (by simp; omega)]
  rw [e, wgl_append, wgl_zeros]
  omega
theorem or_byte (n k b : Nat) (hk : k < 8) (hn : n < 256 ^ k) (hb : b < 256) : bits .or .u64 (n : Int) (IntKind.u64.wrap ((b : Int) * 2 ^ (8 * k))) = ((n + 256 ^ k * b : Nat) : Int) := by
  have e2 : (2 : Int) ^ (8 * k) = ((256 ^ k : Nat) : Int) := by
    rw [show (256 : Nat) = 2 ^ 8 from rfl, ← Nat.pow_mul]; norm_cast
  have h8 : 256 ^ (k + 1) ≤ 256 ^ 8 := Nat.pow_le_pow_right (by omega) (by omega)
  have h9 : 256 ^ k * b + 256 ^ k ≤ 256 ^ (k + 1) := by
    rw [Nat.pow_succ, ← Nat.mul_succ]
    exact Nat.mul_le_mul_left _ (by omega)
  have e3 : IntKind.u64.wrap ((b : Int) * 2 ^ (8 * k)) = ((256 ^ k * b : Nat) : Int) := by
    rw [e2, ← Int.natCast_mul, Nat.mul_comm]
    exact IntWalk.u64_in _ ⟨by omega, by
      have : 256 ^ 8 = 18446744073709551616 := by decide
      omega⟩
  rw [e3, u64_or_nat _ _ (by have : 256 ^ 8 = 18446744073709551616 := by decide
                             have : 256 ^ k ≤ 256 ^ 8 := Nat.pow_le_pow_right (by omega) (by omega)
                             omega) (by have : 256 ^ 8 = 18446744073709551616 := by decide
                                        have : 0 < 256 ^ k := Nat.pow_pos (by omega)
                                        omega)]
  rw [Nat.or_comm, nat_join (8 * k) (256 ^ k * b) n (by
    rw [show (256 : Nat) = 2 ^ 8 from rfl, ← Nat.pow_mul]
    exact Nat.mul_mod_right _ _) (by
    rw [show (256 : Nat) = 2 ^ 8 from rfl, ← Nat.pow_mul] at hn
    exact hn)]
  omega

theorem copied (s : ByteArray) (w : World) : ∃ (m : Int) (W1 : World), (Builtin.copy_ #[80, 9] 3 #[.slice (some ⟨w.heap.size, 0, none⟩) 8 8, .string s]).run Try.prog (w.alloc (.cells #[.int .u8 0, .int .u8 0, .int .u8 0, .int .u8 0, .int .u8 0, .int .u8 0, .int .u8 0, .int .u8 0] 81)) = .ok (.int .i64 m) W1 ∧
    W1.heap[w.heap.size]? = some (.cells (gc s.data.toList) 81 (0, 0)) ∧ Below w.heap.size w W1 ∧ w.heap.size < W1.heap.size := by
  have hg := heap_alloc_new w (.cells #[.int .u8 0, .int .u8 0, .int .u8 0, .int .u8 0, .int .u8 0, .int .u8 0, .int .u8 0, .int .u8 0] 81)
  refine ⟨_, _, run_copy_str (P := Try.prog) _ 80 9 3 5 w.heap.size 8 8 s _ _ Try.underlying80 (by kernel_rfl) hg (by simp), ?_, ?_, ?_⟩
  · rw [setRow_heap _ _ _ _ _ _ hg]
    congr 3
    have hd : ∀ m, m ≤ 8 → List.drop m (#[Value.int .u8 0, .int .u8 0, .int .u8 0, .int .u8 0, .int .u8 0, .int .u8 0, .int .u8 0, .int .u8 0]).toList = List.replicate (8 - m) (Value.int .u8 0) := by
      intro m hm
      match m, hm with
      | 0, _ | 1, _ | 2, _ | 3, _ | 4, _ | 5, _ | 6, _ | 7, _ | 8, _ => rfl
    rw [hd _ (Nat.min_le_right _ _)]
    have hl : (s.data.toList.take 8).length = min s.size 8 := by rw [List.length_take]; exact Nat.min_comm _ _
    rw [hl]
    rfl
  · exact ((Below.refl _ _).alloc (Nat.le_refl _) _).trans ⟨rfl, rfl, rfl, by simp, fun i hi => setRow_other _ _ _ _ (by omega)⟩
  · simp

set_option maxRecDepth 100000 in
theorem Get_val (s : ByteArray) (w : World) (z : Nat) (hz : Hid (z = wget s)) :
    Calls Try.prog 30 #[.string s] w fun e w' => e = .returned (.int .u64 z) ∧ Below w.heap.size w w' := by
  obtain ⟨m, W1, hcopy, hblk, hbel, hlt⟩ := copied s w
  have HBK := Lib.hid hblk
  clear hblk
  go_enter Try.func30, Try.ntmps30
  go_wp2_with fail
  clear hcopy
  have hblk := HBK.out
  go_loop [4, 9] (fun v c => ∃ (k x : Nat), k ≤ 8 ∧ c = .int .i64 k ∧ x = wgl ((pad s.data.toList).take k) ∧ v = .int .u64 x) (fun _ c => 8 - (intOf c).toNat)
  case atStart => exact ⟨0, 0, by omega, rfl, rfl, rfl⟩
  case round =>
    obtain ⟨k, x, hk, rfl, hx, rfl⟩ := hrel
    by_cases hk8 : k < 8
    · obtain ⟨b, hb⟩ : ∃ b : Nat, b = (s.data.toList.getD k 0).toNat := ⟨_, rfl⟩
      have hcell : W1.cell? ⟨w.heap.size, k, none⟩ = some (.int .u8 (b : Int)) := by
        rw [cell_of_row _ _ _ _ _ _ hblk, gc_at _ k hk8, hb]
      have hb8 : b < 256 := by rw [hb]; exact UInt8.toNat_lt _
      have hxl : x < 256 ^ k := by
        have := wgl_lt ((pad s.data.toList).take k)
        rw [List.length_take, pad_length, show min k 8 = k by omega] at this
        rw [hx]; exact this
      have hor := or_byte x k b hk8 hxl hb8
      obtain ⟨y, hy⟩ : ∃ y, y = x + 256 ^ k * b := ⟨_, rfl⟩
      rw [← hy] at hor
      have hyx : y = wgl ((pad s.data.toList).take (k + 1)) := by
        rw [hy, pad_take _ k hk8, wgl_snoc, List.length_take, pad_length, show min k 8 = k by omega, hx, hb]
      have HY := Lib.hid hyx
      have HBK := Lib.hid hblk
      clear hx hb hy hyx hxl hblk
      go_wp2_with fail
      go_round
      case rel => exact ⟨k + 1, y, by omega, by go_num, HY.out, rfl⟩
      case measure => simp [intOf]; omega
    · obtain rfl : k = 8 := by omega
      have hxz : x = z := by
        rw [hx, hz.out, List.take_of_length_le (l := pad s.data.toList) (by rw [pad_length]; omega), wgl_pad]; rfl
      subst hxz
      clear hx
      go_wp2_with fail
      go_ret
      exact ⟨rfl, hbel⟩

/-! Add, Mul, Less: the numbers -/
def addV (a b : Nat) : Nat := if 18446744073709551616 ≤ a + b then 18446744073709551615 else a + b
def addO (a b : Nat) : Bool := decide (18446744073709551616 ≤ a + b)
def mulV (a b : Nat) : Nat := if 18446744073709551616 ≤ a * b then 18446744073709551615 else a * b
def mulO (a b : Nat) : Bool := decide (18446744073709551616 ≤ a * b)

end Go.Proofs.Ytjkiofgllmjkcaa.G
