/- A sector's bytes: filled from the first one on; the method that puts bytes at a place; Encode. -/
import Derived.Test.YtieijelbflkpeaaGCk
namespace Go.Proofs.Ytieijelbflkpeaa.G
open Go.RowKit Go.Proofs.Ytieijelbflkpeaa.CrcPlain Go.Proofs.Ytieijelbflkpeaa.WordPlain
set_option linter.unusedVariables false
set_option linter.unusedSimpArgs false

/-- bytes, and zeros up to 128 -/
def padTo (l : List UInt8) : List UInt8 := l ++ List.replicate (128 - l.length) 0
def over (L : List UInt8) (o : Nat) (s : List UInt8) : List UInt8 := L.take o ++ s ++ L.drop (o + s.length)
theorem padTo_length (l : List UInt8) (h : l.length ≤ 128) : (padTo l).length = 128 := by simp [padTo]; omega
theorem over_pad (l s : List UInt8) (h : l.length + s.length ≤ 128) : over (padTo l) l.length s = padTo (l ++ s) := by
  unfold over padTo
  rw [List.take_left, List.drop_append, List.drop_of_length_le (by omega), List.nil_append, List.drop_replicate]
  have e : 128 - l.length - (l.length + s.length - l.length) = 128 - (l ++ s).length := by rw [List.length_append]; omega
  rw [e]
theorem set_pad (l : List UInt8) (x : UInt8) (h : l.length < 128) : (padTo l).set l.length x = padTo (l ++ [x]) := by
  unfold padTo
  rw [List.set_append_right _ _ (Nat.le_refl _), Nat.sub_self]
  obtain ⟨m, hm⟩ : ∃ m, 128 - l.length = m + 1 := ⟨127 - l.length, by omega⟩
  rw [hm, List.replicate_succ, List.set_cons_zero]
  have e : 128 - (l ++ [x]).length = m := by rw [List.length_append, List.length_singleton]; omega
  rw [e]
  simp
theorem pad_zeros (l : List UInt8) (n : Nat) (h : l.length ≤ n) (h2 : n ≤ 128) : padTo l = padTo (l ++ List.replicate (n - l.length) 0) := by
  unfold padTo
  rw [List.append_assoc, List.length_append, List.length_replicate, List.replicate_append_replicate]
  congr 2
  omega
theorem bvs_append (l m : List UInt8) : bvs (l ++ m) = bvs l ++ bvs m := by simp [bvs]
theorem bvs_take (l : List UInt8) (n : Nat) : (bvs l).take n = bvs (l.take n) := by simp [bvs]
theorem bvs_drop (l : List UInt8) (n : Nat) : (bvs l).drop n = bvs (l.drop n) := by simp [bvs]

theorem run_copy_str_at {P : Program} (w : World) (dT sT ty elem : TypeId) (g o dLen dCap : Nat) (s : ByteArray) (cur : Array Value) (t : TypeId)
    (hu : P.underlying dT = some (.slice elem)) (hs : (P.info? elem).map (·.size) = some 1) (hg : w.heap[g]? = some (.cells cur t (0, 0))) (hfit : o + dLen ≤ cur.size) (hsz : s.size ≤ dLen) :
    (Builtin.copy_ #[dT, sT] ty #[.slice (some ⟨g, o, none⟩) dLen dCap, .string s]).run P w =
      .ok (goInt (s.size : Int)) (w.setRow g (cur.toList.take o ++ bvs s.data.toList ++ cur.toList.drop (o + s.size)).toArray) := by
  have hl : s.data.toList.length = s.size := rfl
  have hmin : Nat.min s.size dLen = s.size := Nat.min_eq_left hsz
  have hlen : (bvs s.data.toList).length = s.size := by rw [bvs_length, hl]
  have hst := run_storeCells_at P g o t (bvs s.data.toList) 0 cur w hg (by rw [hlen]; omega) (by
    intro v hv
    obtain ⟨c, _, rfl⟩ := List.mem_map.1 hv
    rfl)
  have htk : List.take s.size (List.map (fun b : UInt8 => Value.int IntKind.u8 (b.toNat : Int)) s.data.toList) = bvs s.data.toList := List.take_of_length_le (by rw [List.length_map, hl]; omega)
  rw [hlen] at hst
  simp only [Nat.add_zero] at hst
  cases hq : P.info? elem with
  | none => simp [hq] at hs
  | some i =>
    simp [Builtin.copy_, run_underlying hu, Builtin.lenOf, Builtin.firstCells, sizeOf, typeInfo, hq, hmin]
    rw [htk, hst]
    simp [Result.andThen]

theorem slice_array_l {P : Program} (W : World) (t e : TypeId) (n : Nat) (b : Nat) (l : Nat) (ht : P.underlying t = some (.array n e)) (hs : (P.info? e).map (·.size) = some 1) (hl : l < n) :
    (Instr.sliceAt t (.pointer (some ⟨b, 0, none⟩)) (some (.int .i64 (l : Int))) none none).run P W = .ok (.slice (some ⟨b, l, none⟩) (n - l) (n - l)) W := by
  have hal : P.arrayLen t = n := by simp [Program.arrayLen, ht]
  have he : P.elem t = e := by simp [Program.elem, ht]
  have hr := run_sliceAt_array_l (P := P) W t ⟨b, 0, none⟩ (by rw [hal, he]; exact ht) .i64 (l : Int) (by omega) (by rw [hal]; omega)
  rw [hr, he]
  cases hq : P.info? e with
  | none => rw [hq] at hs; cases hs
  | some i =>
    have h1 : i.size = 1 := by rw [hq] at hs; simpa using hs
    simp only [sizeOf, typeInfo]
    simp [hq, slicedAt, Addr.add, h1, hal]
    by_cases h : l = 0
    · subst h; simp
    · simp [h]; omega

/-- a sector in memory -/
def Sec (w : World) (g : Nat) (L : List UInt8) : Prop := w.heap[g]? = some (.cells (bvs L).toArray 55 (0, 0))
def secObj (L : List UInt8) : Obj := .cells (bvs L).toArray 55 (0, 0)

theorem put_val (g o : Nat) (s : ByteArray) (L : List UInt8) (w : World) (hg : Sec w g L) (hL : L.length = 128) (ho : o + s.size ≤ 128) (ho' : o < 128) :
    Calls Try.prog 23 #[.pointer (some ⟨g, 0, none⟩), .int .i64 o, .string s] w fun e w' => e = .returned (.tuple #[]) ∧ w' = w.setRow g (bvs (over L o s.data.toList)).toArray := by
  have hsl := slice_array_l (P := Try.prog) w 55 5 128 g o Try.underlying55 (by kernel_rfl) (by omega)
  have hl : s.data.toList.length = s.size := rfl
  have hcp : (Builtin.copy_ #[59, 9] 3 #[.slice (some ⟨g, o, none⟩) (128 - o) (128 - o), .string s]).run Try.prog w = .ok (.int .i64 (s.size : Int)) (w.setRow g (bvs (over L o s.data.toList)).toArray) := by
    have h := run_copy_str_at (P := Try.prog) w 59 9 3 5 g o (128 - o) (128 - o) s _ _ Try.underlying59 (by kernel_rfl) hg (by simp [bvs_length]; omega) (by omega)
    refine h.trans ?_
    congr 2
    simp only [over, List.toList_toArray, bvs_append, bvs_take, bvs_drop, hl]
  clear hg
  go_enter Try.func23, Try.ntmps23
  go_wp2_with fail
  refine bodyPost_end (v := .tuple #[]) (by rw [results_none rfl]) rfl ⟨rfl, rfl⟩

/-! what Encode keeps, from step to step -/
structure EI (w W : World) (g : Nat) (cs : Array Value) (L : List UInt8) : Prop where
  sec : Sec W g L
  len : L.length = 128
  c0 : W.heap[w.heap.size]? = some (.cells cs 26 (0, 0))
  bel : Below w.heap.size w W
  gt : w.heap.size < g
theorem EI.lt {w W : World} {g : Nat} {cs : Array Value} {L : List UInt8} (h : EI w W g cs L) : g < W.heap.size := by
  have := h.sec
  unfold Sec at this
  rcases Nat.lt_or_ge g W.heap.size with h1 | h1
  · exact h1
  · rw [Array.getElem?_eq_none h1] at this; cases this
theorem EI.below {w W W' : World} {g : Nat} {cs : Array Value} {L : List UInt8} (h : EI w W g cs L) (hb : Below W.heap.size W W') : EI w W' g cs L :=
  ⟨(hb.block g h.lt).trans h.sec, h.len, (hb.block _ (Nat.lt_trans h.gt h.lt)).trans h.c0, below_step h.bel hb, h.gt⟩
theorem EI.setRow {w W : World} {g : Nat} {cs : Array Value} {L : List UInt8} (h : EI w W g cs L) (L' : List UInt8) (hl : L'.length = 128) : EI w (W.setRow g (bvs L').toArray) g cs L' := by
  refine ⟨setRow_heap _ _ _ _ _ _ h.sec, hl, ?_, ?_, h.gt⟩
  · rw [setRow_other _ _ _ _ (by have := h.gt; omega)]; exact h.c0
  · exact h.bel.trans ⟨rfl, rfl, rfl, by simp, fun i hi => setRow_other _ _ _ _ (by have := h.gt; omega)⟩
theorem EI.set {w W : World} {g : Nat} {cs : Array Value} {L : List UInt8} (h : EI w W g cs L) (i : Nat) (c : UInt8) (hi : i < 128) : EI w (W.setCell ⟨g, i, none⟩ (.int .u8 (c.toNat : Int))) g cs (L.set i c) := by
  have e : (bvs L).toArray.setIfInBounds i (.int .u8 (c.toNat : Int)) = (bvs (L.set i c)).toArray := by
    rw [List.setIfInBounds_toArray]
    simp [bvs, List.map_set]
  refine ⟨?_, by rw [List.length_set]; exact h.len, ?_, h.bel.setCell (Nat.le_of_lt h.gt) _, h.gt⟩
  · show (W.setCell _ _).heap[g]? = _
    rw [heap_setCell_same _ _ _ _ _ _ h.sec, e]
  · rw [heap_setCell_other _ _ _ _ (by show w.heap.size ≠ g; have := h.gt; omega)]; exact h.c0
theorem EI.cell {w W : World} {g : Nat} {cs : Array Value} {L : List UInt8} (h : EI w W g cs L) (i : Nat) (hi : i < 128) : W.cell? ⟨g, i, none⟩ = some (.int .u8 ((L[i]'(by rw [h.len]; exact hi)).toNat : Int)) := by
  rw [cell_of_row _ _ i _ _ _ h.sec]
  simp [bvs]
  exact ⟨_, List.getElem?_eq_getElem (by rw [h.len]; exact hi), rfl⟩
theorem EI.frozen {w W : World} {g : Nat} {cs : Array Value} {L : List UInt8} (h : EI w W g cs L) (i : Nat) : W.frozen? ⟨g, i, none⟩ = false := frozen_of_row _ _ i _ _ h.sec

theorem put_ei {w W : World} {g : Nat} {cs : Array Value} {l : List UInt8} (h : EI w W g cs (padTo l)) (o : Nat) (s : ByteArray) (ho : o = l.length) (hs : o + s.size ≤ 128) (ho' : o < 128) :
    Calls Try.prog 23 #[.pointer (some ⟨g, 0, none⟩), .int .i64 o, .string s] W fun e w' => e = .returned (.tuple #[]) ∧ EI w w' g cs (padTo (l ++ s.data.toList)) := by
  have hl : s.data.toList.length = s.size := rfl
  refine (put_val g o s (padTo l) W h.sec h.len hs ho').mono ?_
  rintro e w1 ⟨rfl, rfl⟩
  refine ⟨rfl, ?_⟩
  subst ho
  rw [over_pad l s.data.toList (by omega)]
  exact h.setRow _ (padTo_length _ (by rw [List.length_append]; omega))

/-! the bytes -/
def u8i (x : Int) : UInt8 := UInt8.ofNat x.toNat
theorem u8i_int (x : Int) (h0 : 0 ≤ x) (h1 : x < 256) : ((u8i x).toNat : Int) = x := by
  unfold u8i
  rw [UInt8.toNat_ofNat']
  omega
def Ck.hdr (c : Ck) : List UInt8 := wl c.gen 8 ++ wl c.ep 4 ++ wl c.lsn 8 ++ wl c.ver 8 ++ [u8i c.order.length]
def Ck.pairs (c : Ck) (k : Nat) : List UInt8 := ((c.order.zip c.lens).take k).flatMap fun p => [u8i p.1, u8i p.2]
def Ck.body (c : Ck) : List UInt8 := (c.hdr ++ c.pairs c.order.length) ++ List.replicate (116 - (29 + 2 * c.order.length)) 0
def Ck.crc (c : Ck) : CrcPlain.B := ~~~(crcs (~~~(0#32)) (c.body.map (·.toBitVec)))
def Ck.enc (c : Ck) : List UInt8 := c.body ++ wl c.crc.toNat 4 ++ wl c.gen 8
theorem Ck.hdr_length (c : Ck) : c.hdr.length = 29 := by simp [Ck.hdr, wl_length]
theorem Ck.pairs_length (c : Ck) (h : c.lens.length = c.order.length) (k : Nat) (hk : k ≤ c.order.length) : (c.pairs k).length = 2 * k := by
  have e : ∀ l : List (Int × Int), (l.flatMap fun p => [u8i p.1, u8i p.2]).length = 2 * l.length := by
    intro l
    induction l with
    | nil => rfl
    | cons a l ih => rw [List.flatMap_cons, List.length_append, ih]; simp; omega
  unfold Ck.pairs
  rw [e, List.length_take, List.length_zip, h]
  omega
theorem Ck.pairs_next (c : Ck) (k : Nat) (h1 : k < c.order.length) (h2 : k < c.lens.length) : c.pairs (k + 1) = c.pairs k ++ [u8i c.order[k], u8i c.lens[k]] := by
  unfold Ck.pairs
  rw [List.take_succ_eq_append_getElem (by rw [List.length_zip]; omega), List.flatMap_append, List.getElem_zip]
  simp
theorem Ck.body_length (c : Ck) (h : c.lens.length = c.order.length) (h16 : c.order.length ≤ 16) : c.body.length = 116 := by
  simp only [Ck.body, List.length_append, Ck.hdr_length, c.pairs_length h _ (Nat.le_refl _), List.length_replicate]; omega
theorem Ck.enc_length (c : Ck) (h : c.lens.length = c.order.length) (h16 : c.order.length ≤ 16) : c.enc.length = 128 := by
  simp only [Ck.enc, List.length_append, c.body_length h h16, wl_length]
theorem padTo_whole (l : List UInt8) (h : l.length = 128) : padTo l = l := by simp [padTo, h]

theorem slice_array_h {P : Program} (W : World) (t e : TypeId) (n : Nat) (b : Nat) (h : Nat) (ht : P.underlying t = some (.array n e)) (hs : (P.info? e).map (·.size) = some 1) (hh : h ≤ n) :
    (Instr.sliceAt t (.pointer (some ⟨b, 0, none⟩)) none (some (.int .i64 (h : Int))) none).run P W = .ok (.slice (some ⟨b, 0, none⟩) h n) W := by
  have hal : P.arrayLen t = n := by simp [Program.arrayLen, ht]
  have he : P.elem t = e := by simp [Program.elem, ht]
  have hr := run_sliceAt_array_h (P := P) W t ⟨b, 0, none⟩ (by rw [hal, he]; exact ht) .i64 (h : Int) (by omega) (by rw [hal]; omega)
  rw [hr, he]
  cases hq : P.info? e with
  | none => rw [hq] at hs; cases hs
  | some i =>
    simp only [sizeOf, typeInfo]
    simp [hq, slicedAt, Addr.add, hal]

theorem EI.string {w W : World} {g : Nat} {cs : Array Value} {L : List UInt8} (h : EI w W g cs L) (k cap : Nat) (hk : k ≤ 128) (z : ByteArray) (hz : z = ⟨(L.take k).toArray⟩) :
    (convert 59 9 (.slice (some ⟨g, 0, none⟩) k cap)).run Try.prog W = .ok (.string z) W := by
  have hlen : z.size = k := by rw [hz]; show (L.take k).toArray.size = k; rw [List.size_toArray, List.length_take, h.len]; omega
  have hat : BytesAt W g z := by
    refine ⟨fun j hj => ?_, fun j hj => h.frozen j⟩
    rw [h.cell j (by omega)]
    subst hz
    have e : (⟨(L.take k).toArray⟩ : ByteArray)[j] = L[j]'(by rw [h.len]; omega) := by
      show (L.take k).toArray[j]'hj = _
      simp
    rw [e]
  have := bytes_back (P := Try.prog) hat 59 9 5 cap Try.underlying59 Try.underlying5 Try.underlying9
  rw [hlen] at this
  exact this
end Go.Proofs.Ytieijelbflkpeaa.G
