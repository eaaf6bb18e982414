/- The document's index: Newest, IDs, set. -/
import Derived.Test.YthpompgcnemanaaJa
import Derived.Test.YthpompgcnemanaaGFast
import Derived.BigQuiet
namespace Go.Proofs.Ythpompgcnemanaa.G
open Go.RowKit Go.Maps Go.Proofs Go.Proofs.Ythpompgcnemanaa.WordPlain Go.Proofs.Ythpompgcnemanaa.Loose
set_option linter.unusedVariables false
set_option linter.unusedSimpArgs false

theorem setRow_other (w : World) (g i : Nat) (cs : Array Value) (h : i ≠ g) : (w.setRow g cs).heap[i]? = w.heap[i]? := by
  show (w.heap.modify g _)[i]? = _
  rw [Array.getElem?_modify]
  rw [if_neg (fun e => h e.symm)]
theorem setRow_size (w : World) (g : Nat) (cs : Array Value) : (w.setRow g cs).heap.size = w.heap.size := by
  show (w.heap.modify g _).size = _
  rw [Array.size_modify]
theorem below_srow {B : Nat} {w W : World} (h : Below B w W) {g : Nat} (hg : B ≤ g) (cs : Array Value) : Below B w (W.setRow g cs) :=
  ⟨h.os, h.tape, h.output, by rw [setRow_size]; exact h.size, fun i hi => (setRow_other _ _ _ _ (by omega)).trans (h.block i hi)⟩
theorem nw_info : ∃ i z, Try.prog.info? 86 = some i ∧ i.zero = some z ∧ i.size = 7 ∧ i.bytes = 64 ∧ z.cells.size = 7 := by
  have h : (Try.prog.info? 86).map (fun i => (i.zero.map (·.cells.size), i.size, i.bytes)) = some (some 7, 7, 64) := by kernel_rfl
  cases hq : Try.prog.info? 86 with
  | none => rw [hq] at h; cases h
  | some i =>
    rw [hq] at h; simp at h
    obtain ⟨⟨z, hz, hz2⟩, h3, h4⟩ := h
    exact ⟨i, z, rfl, hz, h3, h4, hz2⟩
theorem st_info : ∃ i z, Try.prog.info? 89 = some i ∧ i.zero = some z ∧ i.size = 3 ∧ i.bytes = 32 ∧ z.cells.size = 3 := by
  have h : (Try.prog.info? 89).map (fun i => (i.zero.map (·.cells.size), i.size, i.bytes)) = some (some 3, 3, 32) := by kernel_rfl
  cases hq : Try.prog.info? 89 with
  | none => rw [hq] at h; cases h
  | some i =>
    rw [hq] at h; simp at h
    obtain ⟨⟨z, hz, hz2⟩, h3, h4⟩ := h
    exact ⟨i, z, rfl, hz, h3, h4, hz2⟩
theorem str_info : ∃ i z, Try.prog.info? 9 = some i ∧ i.zero = some z ∧ i.size = 1 ∧ i.bytes = 16 ∧ z.cells.size = 1 := by
  have h : (Try.prog.info? 9).map (fun i => (i.zero.map (·.cells.size), i.size, i.bytes)) = some (some 1, 1, 16) := by kernel_rfl
  cases hq : Try.prog.info? 9 with
  | none => rw [hq] at h; cases h
  | some i =>
    rw [hq] at h; simp at h
    obtain ⟨⟨z, hz, hz2⟩, h3, h4⟩ := h
    exact ⟨i, z, rfl, hz, h3, h4, hz2⟩
theorem own_base {w : World} {base base' k : Nat} {ty : TypeId} {α : Type} {enc : α → List Value} {v : Value} {l : List α} (h : OwnL base ty k enc w v l) (hb : base' ≤ base) : OwnL base' ty k enc w v l := by
  refine ⟨h.1, ?_⟩
  rcases h.2 with hn | ⟨g, cap, cur, h1, h2, rest⟩
  · exact .inl hn
  · exact .inr ⟨g, cap, cur, h1, Nat.le_trans hb h2, rest⟩
theorem own_cell {w : World} {base k R : Nat} {f : Nat} {u : Value} {ty : TypeId} {α : Type} {enc : α → List Value} {v : Value} {l : List α} (h : OwnL base ty k enc w v l) (hR : R < base) : OwnL base ty k enc (w.setCell ⟨R, f, none⟩ u) v l :=
  own_same h fun g hg => heap_setCell_other _ _ _ _ (by have := (own_geR h g hg).1; show g ≠ R; omega)
section
variable {w w' : World} {R : Nat} {vS vL lv : Value} {S M' : List (Plc × ByteArray)} {L M : List (ByteArray × Ent)}
/-- a new list of the newest is put in -/
theorem RI.setL (h : RI w R vS vL S L) (hb : Below w.heap.size w w') (ho : OwnL w.heap.size 86 7 encNw w' lv M) : RI (w'.setCell ⟨R, 1, none⟩ lv) R vS lv S M ∧ Fw (fun i => i = R) w (w'.setCell ⟨R, 1, none⟩ lv) := by
  have h' := h.below hb
  have hR := lt_of_rowR h.row
  refine ⟨⟨?_, own_cell h'.st (by omega), own_cell (own_base ho (by omega)) (by omega), fun k hk hk2 => ?_⟩, ?_⟩
  · rw [heap_setCell_same _ _ _ _ _ _ h'.row]; rfl
  · have h1 := (own_geR h.st k hk).2
    have h2 := (own_geR ho k hk2).1
    omega
  · exact (Fw.of_below hb).cell rfl
theorem RI.setS (h : RI w R vS vL S L) (hb : Below w.heap.size w w') (ho : OwnL w.heap.size 89 3 encSt w' lv M') : RI (w'.setCell ⟨R, 0, none⟩ lv) R lv vL M' L ∧ Fw (fun i => i = R) w (w'.setCell ⟨R, 0, none⟩ lv) := by
  have h' := h.below hb
  have hR := lt_of_rowR h.row
  refine ⟨⟨?_, own_cell (own_base ho (by omega)) (by omega), own_cell h'.ls (by omega), fun k hk hk2 => ?_⟩, ?_⟩
  · rw [heap_setCell_same _ _ _ _ _ _ h'.row]; rfl
  · have h1 := (own_geR ho k hk).1
    have h2 := (own_geR h.ls k hk2).2
    omega
  · exact (Fw.of_below hb).cell rfl
end
theorem find_en {N : ByteArray → Option Ent} {L : List (ByteArray × Ent)} {i : ByteArray} {k : Int} (hE : En N L) (hk : FindI i L k) : (k = -1 ∧ N i = none) ∨ ∃ j e, ∃ hj : j < L.length, k = (j : Int) ∧ L[j] = (i, e) ∧ N i = some e := by
  rcases hk with ⟨h1, h2⟩ | ⟨j, hj, h1, h2⟩
  · refine Or.inl ⟨h1, ?_⟩
    cases hn : N i with
    | none => rfl
    | some e =>
      obtain ⟨j, hj, he⟩ := List.mem_iff_getElem.1 ((hE.2 i e).2 hn)
      exact absurd (by rw [he]) (h2 j hj)
  · refine Or.inr ⟨j, L[j].2, hj, h1, by rw [← h2], ?_⟩
    exact (hE.2 i _).1 (by rw [← h2]; exact List.getElem_mem hj)
set_option maxRecDepth 100000 in
set_option maxHeartbeats 8000000 in
theorem rNewest_val (w : World) (R : Nat) (vS vL : Value) (S : List (Plc × ByteArray)) (L : List (ByteArray × Ent)) (N : ByteArray → Option Ent) (i : ByteArray) (h : RI w R vS vL S L) (hl : L.length ≤ 1000000) (hE : En N L) :
    Calls Try.prog 27 #[.pointer (some ⟨R, 0, none⟩), .string i] w fun e w' => e = .returned (.tuple #[.agg ((N i).getD Ent.zero).row, .bool (N i).isSome]) ∧ Below w.heap.size w w' := by
  obtain ⟨w1, hw1⟩ : ∃ W, W = w.alloc (.cells #[.int .u64 0, .int .u64 0, .bool false, .int .i64 0, .int .i64 0, .int .i64 0] (71 : Nat)) := ⟨_, rfl⟩
  have b01 : Below w.heap.size w w1 := by rw [hw1]; exact (Below.refl _ _).alloc (Nat.le_refl _) _
  have row1 : w1.heap[w.heap.size]? = some (.cells #[.int .u64 0, .int .u64 0, .bool false, .int .i64 0, .int .i64 0, .int .i64 0] (71 : Nat) (0, 0)) := by rw [hw1]; exact heap_alloc_new _ _
  have RI1 := Lib.hid (h.below b01)
  have B01 := Lib.hid b01
  have ROW1 := Lib.hid row1
  have HW1 := Lib.hid hw1
  have FV := Lib.hid (rfind_val w1 R vS vL S L i (h.below b01) hl)
  have ONE0 : Hid ((#[.int .u64 0, .int .u64 0, .bool false, .int .i64 0, .int .i64 0, .int .i64 0] : Array Value).all (·.oneCell') = true) := Lib.hid (by simp [Value.oneCell'])
  have HE := Lib.hid hE
  obtain ⟨⟨xv, xd, xl, xz, xg, xs⟩, hen⟩ : ∃ e : Ent, e = (N i).getD Ent.zero := ⟨_, rfl⟩
  obtain ⟨es, hes⟩ : ∃ b, b = (N i).isSome := ⟨_, rfl⟩
  rw [← hen, ← hes]
  simp only [Ent.row]
  have HEN := Lib.hid hen
  have HES := Lib.hid hes
  have HEL := Lib.hid (own_lr (k := 7) (enc := encNw) (fun _ => rfl) h.ls)
  have HL := Lib.hid hl
  clear b01 row1 hw1 h hE hen hes hl
  go_enter Try.func27, Try.ntmps27
  go_wp2_with fail
  rw [← HW1.out]
  refine FV.out.mono ?_; rintro e w2 ⟨⟨k, rfl, hk⟩, hb⟩
  have row2 := (hb.block _ (lt_of_rowR ROW1.out)).trans ROW1.out
  have ROW2 := Lib.hid row2
  have RI2 := Lib.hid (RI1.out.below hb)
  have B02 := Lib.hid (stepR B01.out hb)
  have hk2 := find_en HE.out hk
  clear hk hb row2 RI1 FV HW1
  rcases hk2 with ⟨rfl, hn⟩ | ⟨j, e, hj, rfl, hje, hn⟩
  · have h1 := HEN.out
    have h2 := HES.out
    rw [hn] at h1 h2
    simp only [Option.getD, Ent.zero, Ent.mk.injEq, Option.isSome] at h1 h2
    obtain ⟨rfl, rfl, rfl, rfl, rfl, rfl⟩ := h1
    subst h2
    have nS := setRow_heap w2 w.heap.size _ #[.int .u64 0, .int .u64 0, .bool false, .int .i64 0, .int .i64 0, .int .i64 0] _ _ ROW2.out
    have bS : Below w.heap.size w (w2.setRow w.heap.size #[.int .u64 0, .int .u64 0, .bool false, .int .i64 0, .int .i64 0, .int .i64 0]) := below_srow B02.out (Nat.le_refl _) #[.int .u64 0, .int .u64 0, .bool false, .int .i64 0, .int .i64 0, .int .i64 0]
    obtain ⟨w3, hw3⟩ : ∃ W, W = w2.setRow w.heap.size #[.int .u64 0, .int .u64 0, .bool false, .int .i64 0, .int .i64 0, .int .i64 0] := ⟨_, rfl⟩
    rw [← hw3] at nS bS
    have HW3 := Lib.hid hw3
    have NS := Lib.hid nS
    have BS := Lib.hid bS
    clear hn hw3 nS bS
    go_wp2_with (refine wpList_store_row rfl (71 : Nat) _ _ rfl w.heap.size #[.int .u64 0, .int .u64 0, .bool false, .int .i64 0, .int .i64 0, .int .i64 0] rfl rfl _ _ ROW2.out (by kernel_rfl) rfl ONE0.out ?_)
    rw [← HW3.out]
    go_wp2_with fail
    refine bodyPost_ret (v := .tuple #[.agg #[.int .u64 0, .int .u64 0, .bool false, .int .i64 0, .int .i64 0, .int .i64 0], .bool false]) ?_ rfl ⟨rfl, BS.out⟩
    exact results_cell_tmp_row (p := 4) (u := 5) (ty := (71 : Nat)) rfl _ _ w.heap.size (71 : Nat) _ (0, 0) _ rfl NS.out Try.underlying71 rfl (by kernel_rfl)
  · have h1 := HEN.out
    have h2 := HES.out
    rw [hn] at h1 h2
    simp only [Option.getD, Option.isSome] at h1 h2
    subst h1
    subst h2
    have hlr := HEL.out
    obtain ⟨oa, cap, hvl, _, hx⟩ := hlr
    have hjn : (j : Int) < (L.length : Int) := by omega
    obtain ⟨b, off, hoa, hc⟩ := hx j hj
    rw [hje] at hc
    subst hvl
    subst hoa
    have hlc := lt_of_cellR (hc 0 _ rfl)
    have hrow := RI2.out.row
    obtain ⟨n, hn2⟩ : ∃ n, n = L.length := ⟨_, rfl⟩
    rw [← hn2] at hjn hrow
    have c1 := (cell_of_row _ _ 1 _ _ _ hrow).trans (show _ = some (.slice (some ⟨b, off, none⟩) n cap) from rfl)
    have xc : ∀ j' u, (encNw (i, (⟨xv, xd, xl, xz, xg, xs⟩ : Ent)))[j']? = some u → w2.cell? ⟨b, off + j * 7 + j', none⟩ = some u := fun j' u hu => (B02.out.cell (p := ⟨b, off + j * 7 + j', none⟩) hlc).trans (hc j' u hu)
    have x1 := xc 1 _ rfl
    have x2 := xc 2 _ rfl
    have x3 := xc 3 _ rfl
    have x4 := xc 4 _ rfl
    have x5 := xc 5 _ rfl
    have x6 := xc 6 _ rfl
    have ONE : Hid ((#[.int .u64 (xv : Int), .int .u64 (xd : Int), .bool xl, .int .i64 xz, .int .i64 xg, .int .i64 xs] : Array Value).all (·.oneCell') = true) := Lib.hid (by simp [Value.oneCell'])
    have nS := setRow_heap w2 w.heap.size _ #[.int .u64 (xv : Int), .int .u64 (xd : Int), .bool xl, .int .i64 xz, .int .i64 xg, .int .i64 xs] _ _ ROW2.out
    have bS : Below w.heap.size w (w2.setRow w.heap.size #[.int .u64 (xv : Int), .int .u64 (xd : Int), .bool xl, .int .i64 xz, .int .i64 xg, .int .i64 xs]) := below_srow B02.out (Nat.le_refl _) #[.int .u64 (xv : Int), .int .u64 (xd : Int), .bool xl, .int .i64 xz, .int .i64 xg, .int .i64 xs]
    obtain ⟨w3, hw3⟩ : ∃ W, W = w2.setRow w.heap.size #[.int .u64 (xv : Int), .int .u64 (xd : Int), .bool xl, .int .i64 xz, .int .i64 xg, .int .i64 xs] := ⟨_, rfl⟩
    rw [← hw3] at nS bS
    have HW3 := Lib.hid hw3
    have NS := Lib.hid nS
    have BS := Lib.hid bS
    clear hn hw3 nS bS hc hlc hrow hn2 xc hje hx
    go_wp2_with (refine wpList_store_row rfl (71 : Nat) _ _ rfl w.heap.size #[.int .u64 (xv : Int), .int .u64 (xd : Int), .bool xl, .int .i64 xz, .int .i64 xg, .int .i64 xs] rfl rfl _ _ ROW2.out (by kernel_rfl) rfl ONE.out ?_)
    rw [← HW3.out]
    go_wp2_with fail
    refine bodyPost_ret (v := .tuple #[.agg #[.int .u64 (xv : Int), .int .u64 (xd : Int), .bool xl, .int .i64 xz, .int .i64 xg, .int .i64 xs], .bool true]) ?_ rfl ⟨rfl, BS.out⟩
    exact results_cell_tmp_row (p := 4) (u := 5) (ty := (71 : Nat)) rfl _ _ w.heap.size (71 : Nat) _ (0, 0) _ rfl NS.out Try.underlying71 rfl (by kernel_rfl)
end Go.Proofs.Ythpompgcnemanaa.G
