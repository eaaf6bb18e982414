/- '[]byte(s)' and back, as facts on a world under one name. -/
import Derived.Test.YtjkiofgllmjkcaaProg
import Derived.WalkKit
import Derived.Laws.IdiomStrings
import Derived.Lib.QuietBelow
import Derived.Lib.ConvBytes
namespace Go.Proofs.Ytjkiofgllmjkcaa.G
open Go.RowKit
set_option linter.unusedVariables false
set_option linter.unusedSimpArgs false

/-- block b holds the bytes of s, and may be written there -/
structure BytesAt (W : World) (b : Nat) (s : ByteArray) : Prop where
  cell : ∀ j (h : j < s.size), W.cell? ⟨b, j, none⟩ = some (.int .u8 (s[j].toNat : Int))
  free : ∀ j, j < s.size → W.frozen? ⟨b, j, none⟩ = false

theorem bytes_made {P : Program} (w : World) (src dst e : TypeId) (s : ByteArray) (hs : P.underlying src = some .string) (hd : P.underlying dst = some (.slice e)) (he : P.underlying e = some (.int .u8)) :
    ∃ W c, (convert src dst (.string s)).run P w = .ok (.slice (some ⟨w.heap.size, 0, none⟩) s.size c) W ∧ BytesAt W w.heap.size s ∧ Below w.heap.size w W ∧ w.heap.size < W.heap.size ∧ s.size ≤ c := by
  refine ⟨_, _, Lib.run_convert_string_bytes w src dst e s hs hd he, ⟨?_, ?_⟩, ?_, ?_, ?_⟩
  · intro j h
    rw [Lib.bytesWorld_cell w e s j h]
    have : s.data.toList.getD j 0 = s[j] := by
      rw [List.getD_eq_getElem?_getD, List.getElem?_eq_getElem (by exact h)]
      rfl
    rw [this]
  · intro j h
    have hn := Lib.bytesWorld_at_new w e s
    have hsz : s.size ≤ (Lib.bytesCells w e s).size := by simp [Lib.bytesCells]
    simp only [World.frozen?, hn]
    simp
    omega
  · exact ⟨rfl, rfl, rfl, by rw [Lib.bytesWorld_size]; omega, fun k hk => Lib.bytesWorld_at_old w e s k hk⟩
  · rw [Lib.bytesWorld_size]; omega
  · exact Nat.le_add_right _ _

theorem bytes_made_at {P : Program} (w : World) (g : Nat) (hg : g = w.heap.size) (src dst e : TypeId) (s : ByteArray) (hs : P.underlying src = some .string) (hd : P.underlying dst = some (.slice e)) (he : P.underlying e = some (.int .u8)) :
    ∃ W c, (convert src dst (.string s)).run P w = .ok (.slice (some ⟨g, 0, none⟩) s.size c) W ∧ BytesAt W g s ∧ Below g w W ∧ g < W.heap.size ∧ s.size ≤ c := by
  subst hg
  exact bytes_made w src dst e s hs hd he

theorem BytesAt.set {W : World} {b : Nat} {s : ByteArray} (h : BytesAt W b s) (i : Nat) (c : UInt8) (hi : i < s.size) :
    BytesAt (W.setCell ⟨b, i, none⟩ (.int .u8 (c.toNat : Int))) b (s.set i c hi) := by
  have hsz : (s.set i c hi).size = s.size := Array.size_set (xs := s.data) (v := c) hi
  refine ⟨?_, ?_⟩
  · intro j hj
    have hj' : j < s.size := by rw [hsz] at hj; exact hj
    have hg : (s.set i c hi)[j] = if i = j then c else s[j] := by
      exact Array.getElem_set hi (show j < (s.data.set i c hi).size from hj)
    by_cases e : i = j
    · subst e
      rw [World.cell?_setCell_same _ _ _ (h.cell i hi), hg, if_pos rfl]
    · rw [World.cell?_setCell_other _ _ _ _ (by intro e2; injection e2 with _ e3; exact e e3), h.cell j hj', hg, if_neg e]
  · intro j hj
    have hj' : j < s.size := by rw [hsz] at hj; exact hj
    rw [World.frozen?_setCell]
    exact h.free j hj'

theorem BytesAt.below {W W' : World} {b : Nat} {s : ByteArray} (h : BytesAt W b s) {B : Nat} (hb : Below B W W') (hlt : b < B) : BytesAt W' b s :=
  ⟨fun j hj => (hb.cell (p := ⟨b, j, none⟩) hlt).trans (h.cell j hj), fun j hj => (hb.frozen (p := ⟨b, j, none⟩) hlt).trans (h.free j hj)⟩

theorem BytesAt.drew {W : World} {b : Nat} {s : ByteArray} (h : BytesAt W b s) : BytesAt W.drew b s := ⟨h.cell, h.free⟩

theorem bytes_back {P : Program} {W : World} {b : Nat} {s : ByteArray} (h : BytesAt W b s) (src dst e : TypeId) (c : Nat)
    (hs : P.underlying src = some (.slice e)) (he : P.underlying e = some (.int .u8)) (hd : P.underlying dst = some .string) :
    (convert src dst (.slice (some ⟨b, 0, none⟩) s.size c)).run P W = .ok (.string s) W := by
  have hl : s.size = s.data.toList.length := rfl
  rw [hl]
  refine (run_convert_bytes_back (P := P) W src dst e ⟨b, 0, none⟩ c s.data.toList hs he hd ?_).trans ?_
  · intro j hj
    have hadd : (⟨b, 0, none⟩ : Addr).add j = ⟨b, j, none⟩ := by unfold Addr.add; split <;> simp_all
    rw [hadd]
    exact h.cell j hj
  · rfl
/-- a[:h:h] of an array behind a pointer -/
theorem slice_array_hm {P : Program} (W : World) (t e : TypeId) (n : Nat) (b : Nat) (h : Nat) (ht : P.underlying t = some (.array n e)) (hs : (P.info? e).map (·.size) = some 1) (hh : h ≤ n) :
    (Instr.sliceAt t (.pointer (some ⟨b, 0, none⟩)) none (some (.int .i64 (h : Int))) (some (.int .i64 (h : Int)))).run P W = .ok (.slice (some ⟨b, 0, none⟩) h h) W := by
  have hl : P.arrayLen t = n := by simp [Program.arrayLen, ht]
  have he : P.elem t = e := by simp [Program.elem, ht]
  have hr := run_sliceAt_array_hm (P := P) W t ⟨b, 0, none⟩ (by rw [hl, he]; exact ht) .i64 .i64 (h : Int) (h : Int) (by omega) (by omega) (by rw [hl]; omega)
  rw [hr, he]
  cases hq : P.info? e with
  | none => rw [hq] at hs; cases hs
  | some i =>
    simp only [sizeOf, typeInfo]
    simp [hq, slicedAt, Addr.add]
/-- a[:] -/
theorem slice_array_all {P : Program} (W : World) (t e : TypeId) (n : Nat) (b : Nat) (ht : P.underlying t = some (.array n e)) (hs : (P.info? e).map (·.size) = some 1) :
    (Instr.sliceAt t (.pointer (some ⟨b, 0, none⟩)) none none none).run P W = .ok (.slice (some ⟨b, 0, none⟩) n n) W := by
  have hl : P.arrayLen t = n := by simp [Program.arrayLen, ht]
  have he : P.elem t = e := by simp [Program.elem, ht]
  have hr := run_sliceAt_array_all (P := P) W t ⟨b, 0, none⟩ (by rw [hl, he]; exact ht)
  rw [hr, he]
  cases hq : P.info? e with
  | none => rw [hq] at hs; cases hs
  | some i =>
    simp only [sizeOf, typeInfo]
    simp [hq, slicedAt, hl, Addr.add]

theorem run_max2 {P : Program} (ats : Array TypeId) (ty : TypeId) (a b : Int) (W : World) :
    (Builtin.max_ ats ty #[.int .i64 a, .int .i64 b]).run P W = .ok (.int .i64 (max a b)) W := by
  have h : ∀ x y : Int, (if x < y then y else x) = max x y := by intro x y; split <;> omega
  simp [Builtin.max_, Builtin.max2, List.foldlM_cons, List.foldlM_nil, h]
theorem run_min2 {P : Program} (ats : Array TypeId) (ty : TypeId) (a b : Int) (W : World) :
    (Builtin.min_ ats ty #[.int .i64 a, .int .i64 b]).run P W = .ok (.int .i64 (min a b)) W := by
  have h : ∀ x y : Int, (if y < x then y else x) = min x y := by intro x y; split <;> omega
  simp [Builtin.min_, Builtin.min2, List.foldlM_cons, List.foldlM_nil, h]
theorem run_min3 {P : Program} (ats : Array TypeId) (ty : TypeId) (a b c : Int) (W : World) :
    (Builtin.min_ ats ty #[.int .i64 a, .int .i64 b, .int .i64 c]).run P W = .ok (.int .i64 (min (min a b) c)) W := by
  have h : ∀ x y : Int, (if y < x then y else x) = min x y := by intro x y; split <;> omega
  simp [Builtin.min_, Builtin.min2, List.foldlM_cons, List.foldlM_nil, h]

theorem u8_xor_bv (x y : UInt8) : bits .xor .u8 (x.toNat : Int) (y.toNat : Int) = ((x ^^^ y).toNat : Int) := by
  have h8 : ∀ z : BitVec 8, BitVec.ofInt 8 (z.toNat : Int) = z := fun z => by rw [BitVec.ofInt_natCast, BitVec.ofNat_toNat, BitVec.setWidth_eq]
  have e1 : (x.toNat : Int) = (x.toBitVec.toNat : Int) := rfl
  have e2 : (y.toNat : Int) = (y.toBitVec.toNat : Int) := rfl
  rw [e1, e2]
  show IntKind.u8.wrap ((BitVec.ofInt 8 _ ^^^ BitVec.ofInt 8 _).toNat : Int) = _
  rw [h8, h8]
  have := (x.toBitVec ^^^ y.toBitVec).isLt
  rw [IntWalk.u8_in _ (by omega)]
  rfl

theorem conv_one (W : World) (c : UInt8) : (convert 80 9 (.slice (some ⟨W.heap.size, 0, none⟩) 1 1)).run Try.prog ((W.alloc (.cells #[.int .u8 (c.toNat : Int)] 5)).drew) = .ok (.string ⟨#[c]⟩) ((W.alloc (.cells #[.int .u8 (c.toNat : Int)] 5)).drew) := by
  have h := run_convert_bytes_arg (P := Try.prog) ((W.alloc (.cells #[.int .u8 (c.toNat : Int)] 5)).drew) 80 5 Try.underlying80 Try.underlying5 W.heap.size 0 1 1 [(c.toNat : Int)] rfl (by
    intro i hi
    obtain rfl : i = 0 := by omega
    exact cell_of_row (W.alloc (.cells #[.int .u8 (c.toNat : Int)] 5)) _ 0 _ _ _ (heap_alloc_new W _)) 9 Try.underlying9
  rw [h]
  simp [strOfNums]

theorem conv_one0 (W : World) (c : UInt8) : (convert 80 9 (.slice (some ⟨W.heap.size, 0, none⟩) 1 1)).run Try.prog (W.alloc (.cells #[.int .u8 (c.toNat : Int)] 5)) = .ok (.string ⟨#[c]⟩) (W.alloc (.cells #[.int .u8 (c.toNat : Int)] 5)) := by
  have h := run_convert_bytes_arg (P := Try.prog) (W.alloc (.cells #[.int .u8 (c.toNat : Int)] 5)) 80 5 Try.underlying80 Try.underlying5 W.heap.size 0 1 1 [(c.toNat : Int)] rfl (by
    intro i hi
    obtain rfl : i = 0 := by omega
    exact cell_of_row (W.alloc (.cells #[.int .u8 (c.toNat : Int)] 5)) _ 0 _ _ _ (heap_alloc_new W _)) 9 Try.underlying9
  rw [h]
  simp [strOfNums]

theorem u16_wf (a : Int) (h : (Lit.int .u16 a).wf = true) : ∃ n : Nat, a = n ∧ n < 65536 := by
  have b : 0 ≤ a ∧ a < 65536 := by
    simp [Lit.wf, IntKind.min, IntKind.max, IntKind.bits, IntKind.signed] at h
    omega
  obtain ⟨n, rfl⟩ := Int.eq_ofNat_of_zero_le b.1
  exact ⟨n, rfl, by omega⟩
theorem u8_wf (a : Int) (h : (Lit.int .u8 a).wf = true) : ∃ x : UInt8, a = (x.toNat : Int) := by
  have b : 0 ≤ a ∧ a < 256 := by
    simp [Lit.wf, IntKind.min, IntKind.max, IntKind.bits, IntKind.signed] at h
    omega
  obtain ⟨n, rfl⟩ := Int.eq_ofNat_of_zero_le b.1
  refine ⟨UInt8.ofNat n, ?_⟩
  rw [UInt8.toNat_ofNat', Nat.mod_eq_of_lt (show n < 2 ^ 8 by omega)]
end Go.Proofs.Ytjkiofgllmjkcaa.G
