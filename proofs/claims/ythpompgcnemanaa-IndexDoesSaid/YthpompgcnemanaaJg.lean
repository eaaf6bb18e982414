/- One call of an index, either way. -/
import Derived.Test.YthpompgcnemanaaJf
import Derived.Test.YthpompgcnemanaaGFast
import Derived.Test.YthpompgcnemanaaGTail
import Derived.BigQuiet
import Derived.Deep.RegionHeld
namespace Go.Proofs.Ythpompgcnemanaa.G
open Go.RowKit Go.Maps Go.Proofs Go.Proofs.Ythpompgcnemanaa.WordPlain Go.Proofs.Ythpompgcnemanaa.Loose
set_option linter.unusedVariables false
set_option linter.unusedSimpArgs false

/-- both indexes -/
structure DX (w : World) (X bn bp R k : Nat) (N : ByteArray → Option Ent) (Q : Plc → Option ByteArray) : Prop where
  ix : Ix w X bn bp k k N Q
  ri : ∃ vS vL S L, RI w R vS vL S L ∧ NL N L ∧ En Q S ∧ S.length ≤ k ∧ L.length ≤ k
  gi : GI N Q
theorem DX.below {w w' : World} {X bn bp R k : Nat} {N : ByteArray → Option Ent} {Q : Plc → Option ByteArray} (h : DX w X bn bp R k N Q) (hb : Below w.heap.size w w') : DX w' X bn bp R k N Q :=
  ⟨h.ix.below hb, let ⟨vS, vL, S, L, h1, h2⟩ := h.ri; ⟨vS, vL, S, L, h1.below hb, h2⟩, h.gi⟩
/-- nothing that stood has turned -/
structure Bw (w V : World) : Prop where
  b : Below w.heap.size w V
/-- the boxes of a call and of its record -/
structure Bo (ro rc : Array Value) (A C : Nat) (V : World) : Prop where
  a : V.heap[A]? = some (.cells ro (38 : Nat) (0, 0))
  c : V.heap[C]? = some (.cells rc (34 : Nat) (0, 0))
theorem Bo.below {ro rc : Array Value} {A C : Nat} {V V' : World} (h : Bo ro rc A C V) (hb : Below V.heap.size V V') : Bo ro rc A C V' := ⟨(hb.block _ (lt_of_rowR h.a)).trans h.a, (hb.block _ (lt_of_rowR h.c)).trans h.c⟩
theorem Bo.mq {ro rc : Array Value} {A C p b : Nat} {V V' : World} (h : Bo ro rc A C V) (m : Mq p b V V') (hA : A ≠ p ∧ A ≠ b) (hC : C ≠ p ∧ C ≠ b) : Bo ro rc A C V' := ⟨m.row h.a hA.1 hA.2, m.row h.c hC.1 hC.2⟩
set_option maxRecDepth 100000 in
set_option maxHeartbeats 8000000 in
theorem do_kill (w : World) (X bn bp R k B : Nat) (N : ByteArray → Option Ent) (Q : Plc → Option ByteArray) (o : Iop) (hd : DX w X bn bp R k N Q) (hlt : X < R ∧ bn < R ∧ bp < R) (hk : k ≤ 60) (hp : kP.ok o.p) (hB : B ≤ bn ∧ B ≤ bp ∧ B ≤ w.heap.size) (h0 : (bits BinOp.and IntKind.i64 o.kind 7 == 0) = true) :
    Calls Try.prog 10 #[.pointer (some ⟨X, 0, none⟩), .pointer (some ⟨R, 0, none⟩), .agg #[.int .i64 o.kind, .int .u64 (o.r.lsn : Int), .int .u32 (o.r.ep : Int), .int .i64 o.r.kind, .int .u64 (o.r.ver : Int), .int .u64 (o.r.dl : Int), .string o.r.id, .string o.r.va, .int .i64 o.p.1, .int .i64 o.p.2]] w fun e w' => e = .returned (.int .i64 1) ∧ (∃ N' Q', DX w' X bn bp R (k + 1) N' Q') ∧ Below B w w' := by
  have hrsz : o.r.cut.id.size ≤ 80 ∧ o.r.cut.va.size ≤ 80 := ⟨by show (o.r.id.extract 0 _).size ≤ _; rw [ByteArray.size_extract]; omega, by show (o.r.va.extract 0 _).size ≤ _; rw [ByteArray.size_extract]; omega⟩
  have hcut := fun W => CutR_val o.r W
  obtain ⟨c, hc⟩ : ∃ c, c = o.r.cut := ⟨_, rfl⟩
  simp only [← hc] at hcut hrsz
  obtain ⟨ok, ⟨rl, re, rk, rv, rd, ri, ra⟩, ⟨p1, p2⟩⟩ := o
  obtain ⟨cl, ce, ck, cv, cd, ci, ca⟩ := c
  simp only at hcut hp hrsz h0 ⊢
  have HCUT := Lib.hid hcut
  have HD := Lib.hid hd
  have HLT := Lib.hid hlt
  have HP := Lib.hid hp
  have HBB := Lib.hid hB
  have HSZ := Lib.hid hrsz
  obtain ⟨w1, hw1⟩ : ∃ W, W = w.alloc (.cells #[.int .i64 ok, .int .u64 (rl : Int), .int .u32 (re : Int), .int .i64 rk, .int .u64 (rv : Int), .int .u64 (rd : Int), .string ri, .string ra, .int .i64 p1, .int .i64 p2] (38 : Nat)) := ⟨_, rfl⟩
  have b01 : Below w.heap.size w w1 := by rw [hw1]; exact (Below.refl _ _).alloc (Nat.le_refl _) _
  have row1 : w1.heap[w.heap.size]? = some (.cells #[.int .i64 ok, .int .u64 (rl : Int), .int .u32 (re : Int), .int .i64 rk, .int .u64 (rv : Int), .int .u64 (rd : Int), .string ri, .string ra, .int .i64 p1, .int .i64 p2] (38 : Nat) (0, 0)) := by rw [hw1]; exact heap_alloc_new _ _
  have HW1 := Lib.hid hw1
  have B01 := Lib.hid b01
  have ROW1 := Lib.hid row1
  clear hc hcut hd hlt hp hB hrsz hw1 b01 row1
  go_enter Try.func10, Try.ntmps10
  go_wp2_with fail
  rw [← HW1.out]
  refine (HCUT.out _).mono ?_; rintro e w2 ⟨rfl, hb⟩
  obtain ⟨w3, hw3⟩ : ∃ W, W = w2.alloc (.cells #[.int .u64 (cl : Int), .int .u32 (ce : Int), .int .i64 ck, .int .u64 (cv : Int), .int .u64 (cd : Int), .string ci, .string ca] (34 : Nat)) := ⟨_, rfl⟩
  have b23 : Below w2.heap.size w2 w3 := by rw [hw3]; exact (Below.refl _ _).alloc (Nat.le_refl _) _
  have rowc : w3.heap[w2.heap.size]? = some (.cells #[.int .u64 (cl : Int), .int .u32 (ce : Int), .int .i64 ck, .int .u64 (cv : Int), .int .u64 (cd : Int), .string ci, .string ca] (34 : Nat) (0, 0)) := by rw [hw3]; exact heap_alloc_new _ _
  have B03 := Lib.hid (stepR B01.out (stepR hb b23))
  obtain ⟨C, hC⟩ : ∃ C, C = w2.heap.size := ⟨_, rfl⟩
  rw [← hC] at rowc
  have BO3 : Hid (Bo #[.int .i64 ok, .int .u64 (rl : Int), .int .u32 (re : Int), .int .i64 rk, .int .u64 (rv : Int), .int .u64 (rd : Int), .string ri, .string ra, .int .i64 p1, .int .i64 p2] #[.int .u64 (cl : Int), .int .u32 (ce : Int), .int .i64 ck, .int .u64 (cv : Int), .int .u64 (cd : Int), .string ci, .string ca] w.heap.size C w3) := Lib.hid ⟨((stepR hb b23).block _ (lt_of_rowR ROW1.out)).trans ROW1.out, rowc⟩
  have D3 := Lib.hid (HD.out.below B03.out)
  have HCC := Lib.hid (show w.heap.size < C by have := B01.out.size; have := hb.size; have := lt_of_rowR ROW1.out; omega)
  have HW3 := Lib.hid hw3
  have HC2 := Lib.hid hC
  have a0 : (w2.alloc (.cells #[.int .u64 (cl : Int), .int .u32 (ce : Int), .int .i64 ck, .int .u64 (cv : Int), .int .u64 (cd : Int), .string ci, .string ca] (34 : Nat))).cell? ⟨w.heap.size, 0, none⟩ = some (.int .i64 ok) := by rw [← hw3]; exact (cell_of_row _ _ 0 _ _ _ BO3.out.a).trans rfl
  clear hb b23 rowc hw3 hC HW1
  go_wp2_with fail
  rw [← HW3.out]
  try rw [← HC2.out]
  clear h0
  (try go_frame)
  refine wp_region_held (S := fun V => Bo #[.int .i64 ok, .int .u64 (rl : Int), .int .u32 (re : Int), .int .i64 rk, .int .u64 (rv : Int), .int .u64 (rd : Int), .string ri, .string ra, .int .i64 p1, .int .i64 p2] #[.int .u64 (cl : Int), .int .u32 (ce : Int), .int .i64 ck, .int .u64 (cv : Int), .int .u64 (cd : Int), .string ci, .string ca] w.heap.size C V) (by kernel_rfl) ?_
  obtain ⟨Wd, hWd⟩ : ∃ x, x = { w3 with drawn := w3.drawn + 1 } := ⟨_, rfl⟩
  have bd : Below w3.heap.size w3 Wd := by rw [hWd]; exact ⟨rfl, rfl, rfl, Nat.le_refl _, fun _ _ => rfl⟩
  rw [← hWd]
  have hS0 := BO3.out.below bd
  have DD := Lib.hid (D3.out.below bd)
  have BD := Lib.hid (stepR B03.out bd)
  clear hWd bd a0
  obtain ⟨vS, vL, S, L, hri0, hnl, hen, hSl, hLl⟩ := HD.out.ri
  have hri := hri0.below BD.out
  have OB := Lib.hid (show ∀ g, some g = vS.ownBlock → g < w.heap.size from fun g hg => (own_geR hri0.st g hg).2)
  have hSl2 : S.length ≤ 60 := by omega
  have hLl2 : L.length ≤ 60 := by omega
  have RID := Lib.hid hri
  have NLD := Lib.hid hnl
  have END := Lib.hid hen
  have HSL := Lib.hid hSl
  have HLL := Lib.hid hLl
  have LTS := Lib.hid (show X < w.heap.size ∧ bn < w.heap.size ∧ bp < w.heap.size from HD.out.ix.lts)
  have RLT := Lib.hid (show R < w.heap.size from by obtain ⟨_, _, _, _, h, _⟩ := HD.out.ri; exact lt_of_rowR h.row)
  clear hri hri0 hnl hen hSl hLl
  have c0 : ∀ V, Bo #[.int .i64 ok, .int .u64 (rl : Int), .int .u32 (re : Int), .int .i64 rk, .int .u64 (rv : Int), .int .u64 (rd : Int), .string ri, .string ra, .int .i64 p1, .int .i64 p2] #[.int .u64 (cl : Int), .int .u32 (ce : Int), .int .i64 ck, .int .u64 (cv : Int), .int .u64 (cd : Int), .string ci, .string ca] w.heap.size C V → V.cell? ⟨C, 0, none⟩ = some (.int .u64 (cl : Int)) := fun V hV => (cell_of_row _ _ 0 _ _ _ hV.c).trans rfl
  have c1 : ∀ V, Bo #[.int .i64 ok, .int .u64 (rl : Int), .int .u32 (re : Int), .int .i64 rk, .int .u64 (rv : Int), .int .u64 (rd : Int), .string ri, .string ra, .int .i64 p1, .int .i64 p2] #[.int .u64 (cl : Int), .int .u32 (ce : Int), .int .i64 ck, .int .u64 (cv : Int), .int .u64 (cd : Int), .string ci, .string ca] w.heap.size C V → V.cell? ⟨C, 1, none⟩ = some (.int .u32 (ce : Int)) := fun V hV => (cell_of_row _ _ 1 _ _ _ hV.c).trans rfl
  have c2 : ∀ V, Bo #[.int .i64 ok, .int .u64 (rl : Int), .int .u32 (re : Int), .int .i64 rk, .int .u64 (rv : Int), .int .u64 (rd : Int), .string ri, .string ra, .int .i64 p1, .int .i64 p2] #[.int .u64 (cl : Int), .int .u32 (ce : Int), .int .i64 ck, .int .u64 (cv : Int), .int .u64 (cd : Int), .string ci, .string ca] w.heap.size C V → V.cell? ⟨C, 2, none⟩ = some (.int .i64 ck) := fun V hV => (cell_of_row _ _ 2 _ _ _ hV.c).trans rfl
  have c3 : ∀ V, Bo #[.int .i64 ok, .int .u64 (rl : Int), .int .u32 (re : Int), .int .i64 rk, .int .u64 (rv : Int), .int .u64 (rd : Int), .string ri, .string ra, .int .i64 p1, .int .i64 p2] #[.int .u64 (cl : Int), .int .u32 (ce : Int), .int .i64 ck, .int .u64 (cv : Int), .int .u64 (cd : Int), .string ci, .string ca] w.heap.size C V → V.cell? ⟨C, 3, none⟩ = some (.int .u64 (cv : Int)) := fun V hV => (cell_of_row _ _ 3 _ _ _ hV.c).trans rfl
  have c4 : ∀ V, Bo #[.int .i64 ok, .int .u64 (rl : Int), .int .u32 (re : Int), .int .i64 rk, .int .u64 (rv : Int), .int .u64 (rd : Int), .string ri, .string ra, .int .i64 p1, .int .i64 p2] #[.int .u64 (cl : Int), .int .u32 (ce : Int), .int .i64 ck, .int .u64 (cv : Int), .int .u64 (cd : Int), .string ci, .string ca] w.heap.size C V → V.cell? ⟨C, 4, none⟩ = some (.int .u64 (cd : Int)) := fun V hV => (cell_of_row _ _ 4 _ _ _ hV.c).trans rfl
  have c5 : ∀ V, Bo #[.int .i64 ok, .int .u64 (rl : Int), .int .u32 (re : Int), .int .i64 rk, .int .u64 (rv : Int), .int .u64 (rd : Int), .string ri, .string ra, .int .i64 p1, .int .i64 p2] #[.int .u64 (cl : Int), .int .u32 (ce : Int), .int .i64 ck, .int .u64 (cv : Int), .int .u64 (cd : Int), .string ci, .string ca] w.heap.size C V → V.cell? ⟨C, 5, none⟩ = some (.string ci) := fun V hV => (cell_of_row _ _ 5 _ _ _ hV.c).trans rfl
  have c6 : ∀ V, Bo #[.int .i64 ok, .int .u64 (rl : Int), .int .u32 (re : Int), .int .i64 rk, .int .u64 (rv : Int), .int .u64 (rd : Int), .string ri, .string ra, .int .i64 p1, .int .i64 p2] #[.int .u64 (cl : Int), .int .u32 (ce : Int), .int .i64 ck, .int .u64 (cv : Int), .int .u64 (cd : Int), .string ci, .string ca] w.heap.size C V → V.cell? ⟨C, 6, none⟩ = some (.string ca) := fun V hV => (cell_of_row _ _ 6 _ _ _ hV.c).trans rfl
  have a8 : ∀ V, Bo #[.int .i64 ok, .int .u64 (rl : Int), .int .u32 (re : Int), .int .i64 rk, .int .u64 (rv : Int), .int .u64 (rd : Int), .string ri, .string ra, .int .i64 p1, .int .i64 p2] #[.int .u64 (cl : Int), .int .u32 (ce : Int), .int .i64 ck, .int .u64 (cv : Int), .int .u64 (cd : Int), .string ci, .string ca] w.heap.size C V → V.cell? ⟨w.heap.size, 8, none⟩ = some (.int .i64 p1) := fun V hV => (cell_of_row _ _ 8 _ _ _ hV.a).trans rfl
  have a9 : ∀ V, Bo #[.int .i64 ok, .int .u64 (rl : Int), .int .u32 (re : Int), .int .i64 rk, .int .u64 (rv : Int), .int .u64 (rd : Int), .string ri, .string ra, .int .i64 p1, .int .i64 p2] #[.int .u64 (cl : Int), .int .u32 (ce : Int), .int .i64 ck, .int .u64 (cv : Int), .int .u64 (cd : Int), .string ci, .string ca] w.heap.size C V → V.cell? ⟨w.heap.size, 9, none⟩ = some (.int .i64 p2) := fun V hV => (cell_of_row _ _ 9 _ _ _ hV.a).trans rfl

  refine wpAnyH_take (i := 0) (v := .pointer (some ⟨X, 0, none⟩)) rfl (by kernel_rfl) ?_ ?_ (fun _ _ _ h => h) (Or.inl ⟨by first | kernel_rfl | rfl, ?_⟩) hS0 ?_
  · kernel_rfl
  · kernel_rfl
  · intro V hV; go_simp
  refine wpAnyH_take (i := 1) (v := .pointer (some ⟨C, 5, none⟩)) rfl (by kernel_rfl) ?_ ?_ (fun _ _ _ h => h) (Or.inl ⟨by first | kernel_rfl | rfl, ?_⟩) hS0 ?_
  · kernel_rfl
  · kernel_rfl
  · intro V hV; go_simp
  refine wpAnyH_take (i := 2) (v := .string ci) rfl (by kernel_rfl) ?_ ?_ (fun _ _ _ h => h) (Or.inl ⟨by first | kernel_rfl | rfl, ?_⟩) hS0 ?_
  · kernel_rfl
  · kernel_rfl
  · intro V hV; go_simp
  refine wpAnyH_take (i := 4) (v := .pointer (some ⟨R, 0, none⟩)) rfl (by kernel_rfl) ?_ ?_ (fun _ _ _ h => h) (Or.inl ⟨by first | kernel_rfl | rfl, ?_⟩) hS0 ?_
  · kernel_rfl
  · kernel_rfl
  · intro V hV; go_simp
  refine wpAnyH_take (i := 5) (v := .pointer (some ⟨C, 5, none⟩)) rfl (by kernel_rfl) ?_ ?_ (fun _ _ _ h => h) (Or.inl ⟨by first | kernel_rfl | rfl, ?_⟩) hS0 ?_
  · kernel_rfl
  · kernel_rfl
  · intro V hV; go_simp
  refine wpAnyH_take (i := 6) (v := .string ci) rfl (by kernel_rfl) ?_ ?_ (fun _ _ _ h => h) (Or.inl ⟨by first | kernel_rfl | rfl, ?_⟩) hS0 ?_
  · kernel_rfl
  · kernel_rfl
  · intro V hV; go_simp
  refine wpAnyH_ready (rs := [3]) (by kernel_rfl) (by simp) ?_
  refine AllReadyH.cons rfl (fun K' hK => ?_) AllReadyH.nil
  go_simp
  refine (IKill_val Wd X bn bp k k N Q ci DD.out.ix (by omega) (by have := HSZ.out; omega)).mono ?_; rintro e x1 ⟨rfl, hix, hmq⟩
  have IX1 := Lib.hid hix
  have RI1 := Lib.hid (RID.out.mq hmq HLT.out.2.1 HLT.out.2.2)
  have BO1 := Lib.hid (hS0.mq hmq (by have := LTS.out; omega) (by have := LTS.out; have := HCC.out; omega))
  have BB1 := Lib.hid ((BD.out.mono HBB.out.2.2).trans (hmq.below HBB.out.1 HBB.out.2.1 (by have := BD.out.size; have := HBB.out.2.2; omega)))
  have SZ1 := Lib.hid (show w.heap.size ≤ x1.heap.size from Nat.le_trans BD.out.size hmq.size)
  clear hix hmq
  (try go_simp)
  refine hK.out _ _ (BO1.out) (fun hS1 => ?_)
  clear hK K' hS0
  refine wpAnyH_ready (rs := [7]) (by kernel_rfl) (by simp) ?_
  refine AllReadyH.cons rfl (fun K' hK => ?_) AllReadyH.nil
  go_simp
  refine (rKill_val x1 R vS vL S L N ci RI1.out (by omega) NLD.out).mono ?_; rintro e x2 ⟨rfl, ⟨lv, M, hri, hnl, hml⟩, hfw⟩
  have IX2 := Lib.hid (IX1.out.keep (hfw.block _ IX1.out.lts.1 (by have := HLT.out; omega)) (hfw.block _ IX1.out.lts.2.1 (by have := HLT.out; omega)) (hfw.block _ IX1.out.lts.2.2 (by have := HLT.out; omega)))
  have BO2 := Lib.hid (show Bo #[.int .i64 ok, .int .u64 (rl : Int), .int .u32 (re : Int), .int .i64 rk, .int .u64 (rv : Int), .int .u64 (rd : Int), .string ri, .string ra, .int .i64 p1, .int .i64 p2] #[.int .u64 (cl : Int), .int .u32 (ce : Int), .int .i64 ck, .int .u64 (cv : Int), .int .u64 (cd : Int), .string ci, .string ca] w.heap.size C x2 from ⟨hfw.row BO1.out.a (by have := RLT.out; omega), hfw.row BO1.out.c (by have := RLT.out; have := HCC.out; omega)⟩)
  have BB2 := Lib.hid (BB1.out.trans (hfw.below (B := B) (fun i hi => by have := HBB.out; have := HLT.out; omega) (by have := SZ1.out; have := HBB.out.2.2; omega)))
  have RI2 := Lib.hid hri
  have NL2 := Lib.hid hnl
  have HML := Lib.hid hml
  clear hri hnl hml hfw
  (try go_simp)
  refine hK.out _ _ (BO2.out) (fun hS2 => ?_)
  clear hK K' hS1
  refine wpAnyH_take (i := 8) (v := .bool false) rfl (by kernel_rfl) ?_ ?_ (fun _ _ _ h => h) (Or.inl ⟨by first | kernel_rfl | rfl, ?_⟩) hS2 ?_
  · kernel_rfl
  · kernel_rfl
  · intro V hV; go_simp
  clear c0 c1 c2 c3 c4 c5 c6 a8 a9
  clear hS2
  refine wpAnyH_done (by kernel_rfl) ?_ _
  obtain ⟨wv, hwv⟩ : ∃ x, x = x2 := ⟨_, rfl⟩
  obtain ⟨N', hN'⟩ : ∃ x, x = killN N ci := ⟨_, rfl⟩
  obtain ⟨Q', hQ'⟩ : ∃ x, x = Q := ⟨_, rfl⟩
  have DV : Hid (DX wv X bn bp R (k + 1) N' Q') := Lib.hid (by rw [hwv, hN', hQ']; exact ⟨IX2.out.mono (Nat.le_refl _) (Nat.le_succ _), ⟨_, _, S, M, RI2.out, NL2.out, END.out, by have := HSL.out; omega, by have := HLL.out; have := HML.out; omega⟩, DD.out.gi.kill ci⟩)
  have BOV : Hid (Bo #[.int .i64 ok, .int .u64 (rl : Int), .int .u32 (re : Int), .int .i64 rk, .int .u64 (rv : Int), .int .u64 (rd : Int), .string ri, .string ra, .int .i64 p1, .int .i64 p2] #[.int .u64 (cl : Int), .int .u32 (ce : Int), .int .i64 ck, .int .u64 (cv : Int), .int .u64 (cd : Int), .string ci, .string ca] w.heap.size C wv) := Lib.hid (by rw [hwv]; exact BO2.out)
  have BBV : Hid (Below B w wv) := Lib.hid (by rw [hwv]; exact BB2.out)
  rw [← hwv]
  clear hwv hN' hQ' IX1 IX2 RI1 RI2 NL2 HML BO1 BO2 BB1 BB2 SZ1 RID NLD END HSL HLL DD BD hSl2 hLl2 OB
  obtain ⟨vS, vL, S, L, hri, hnl, hen, hSl, hLl⟩ := DV.out.ri
  have RIV := Lib.hid hri
  have NLV := Lib.hid hnl
  have ENV := Lib.hid hen
  have hSl2 : S.length ≤ 61 := by omega
  have hLl2 : L.length ≤ 61 := by omega
  have NSZ : Hid (∀ i s, N' i = some s → i.size ≤ 140737488351232) := Lib.hid (fun i s h => by have := (DV.out.gi.st i s h).2.1; omega)
  have HSZ4 : Hid (∀ p ∈ L, 0 ≤ p.2.sz ∧ p.2.sz ≤ 4000000) := Lib.hid (fun p hp => (DV.out.gi.st p.1 p.2 ((hnl.en.2 p.1 p.2).1 hp)).2.2)
  clear hri hnl hen hSl hLl
  have c5 : wv.cell? ⟨C, 5, none⟩ = some (.string ci) := (cell_of_row _ _ 5 _ _ _ (BOV.out).c).trans rfl
  have NV := INewest_val wv X bn bp _ _ N' Q' ci DV.out.ix (by have := HSZ.out; omega)
  have RN := Lib.hid (fun W (h : RI W R vS vL S L) => rNewest_val W R vS vL S L N' ci h (by omega) NLV.out.en)
  obtain ⟨⟨ea, ed, el, eu, ev, ex⟩, hen⟩ : ∃ e : Ent, e = (N' ci).getD Ent.zero := ⟨_, rfl⟩
  obtain ⟨es, hes⟩ : ∃ b, b = (N' ci).isSome := ⟨_, rfl⟩
  rw [← hen, ← hes] at NV RN
  simp only [Ent.row] at NV RN
  have HNV := Lib.hid NV
  clear NV hen hes
  go_wp2_with fail
  refine HNV.out.mono ?_; rintro e v1 ⟨rfl, hb⟩
  obtain ⟨v2, hv2⟩ : ∃ W, W = (v1.alloc (.cells #[.int .u64 (ea : Int), .int .u64 (ed : Int), .bool el, .int .i64 eu, .int .i64 ev, .int .i64 ex] (49 : Nat))) := ⟨_, rfl⟩
  have b2 : Below wv.heap.size wv v2 := stepR hb (by rw [hv2]; exact (Below.refl _ _).alloc (Nat.le_refl _) _)
  have e1 : v2.heap[v1.heap.size]? = some (.cells #[.int .u64 (ea : Int), .int .u64 (ed : Int), .bool el, .int .i64 eu, .int .i64 ev, .int .i64 ex] (49 : Nat) (0, 0)) := by rw [hv2]; exact heap_alloc_new _ _
  have c5b : (v1.alloc (.cells #[.int .u64 (ea : Int), .int .u64 (ed : Int), .bool el, .int .i64 eu, .int .i64 ev, .int .i64 ex] (49 : Nat))).cell? ⟨C, 5, none⟩ = some (.string ci) := (cell_of_row _ _ 5 _ _ _ ((show Bo #[.int .i64 ok, .int .u64 (rl : Int), .int .u32 (re : Int), .int .i64 rk, .int .u64 (rv : Int), .int .u64 (rd : Int), .string ri, .string ra, .int .i64 p1, .int .i64 p2] #[.int .u64 (cl : Int), .int .u32 (ce : Int), .int .i64 ck, .int .u64 (cv : Int), .int .u64 (cd : Int), .string ci, .string ca] w.heap.size C (v1.alloc (.cells #[.int .u64 (ea : Int), .int .u64 (ed : Int), .bool el, .int .i64 eu, .int .i64 ev, .int .i64 ex] (49 : Nat))) from by rw [← hv2]; exact BOV.out.below b2)).c).trans rfl
  have B2 := Lib.hid b2
  have E1 := Lib.hid e1
  have HV2 := Lib.hid hv2
  clear hb b2 e1 hv2 HNV c5
  go_wp2_with fail
  rw [← HV2.out]
  refine (RN.out v2 (RIV.out.below B2.out)).mono ?_; rintro e v3 ⟨rfl, hb⟩
  obtain ⟨v4, hv4⟩ : ∃ W, W = (v3.alloc (.cells #[.int .u64 (ea : Int), .int .u64 (ed : Int), .bool el, .int .i64 eu, .int .i64 ev, .int .i64 ex] (71 : Nat))) := ⟨_, rfl⟩
  have b4 : Below v2.heap.size v2 v4 := stepR hb (by rw [hv4]; exact (Below.refl _ _).alloc (Nat.le_refl _) _)
  have e1 := (b4.block _ (lt_of_rowR E1.out)).trans E1.out
  have e2 : v4.heap[v3.heap.size]? = some (.cells #[.int .u64 (ea : Int), .int .u64 (ed : Int), .bool el, .int .i64 eu, .int .i64 ev, .int .i64 ex] (71 : Nat) (0, 0)) := by rw [hv4]; exact heap_alloc_new _ _
  have B4 := Lib.hid (stepR B2.out b4)
  have a8b : (v3.alloc (.cells #[.int .u64 (ea : Int), .int .u64 (ed : Int), .bool el, .int .i64 eu, .int .i64 ev, .int .i64 ex] (71 : Nat))).cell? ⟨w.heap.size, 8, none⟩ = some (.int .i64 p1) := (cell_of_row _ _ 8 _ _ _ ((show Bo #[.int .i64 ok, .int .u64 (rl : Int), .int .u32 (re : Int), .int .i64 rk, .int .u64 (rv : Int), .int .u64 (rd : Int), .string ri, .string ra, .int .i64 p1, .int .i64 p2] #[.int .u64 (cl : Int), .int .u32 (ce : Int), .int .i64 ck, .int .u64 (cv : Int), .int .u64 (cd : Int), .string ci, .string ca] w.heap.size C (v3.alloc (.cells #[.int .u64 (ea : Int), .int .u64 (ed : Int), .bool el, .int .i64 eu, .int .i64 ev, .int .i64 ex] (71 : Nat))) from by rw [← hv4]; exact BOV.out.below B4.out)).a).trans rfl
  have a9b : (v3.alloc (.cells #[.int .u64 (ea : Int), .int .u64 (ed : Int), .bool el, .int .i64 eu, .int .i64 ev, .int .i64 ex] (71 : Nat))).cell? ⟨w.heap.size, 9, none⟩ = some (.int .i64 p2) := (cell_of_row _ _ 9 _ _ _ ((show Bo #[.int .i64 ok, .int .u64 (rl : Int), .int .u32 (re : Int), .int .i64 rk, .int .u64 (rv : Int), .int .u64 (rd : Int), .string ri, .string ra, .int .i64 p1, .int .i64 p2] #[.int .u64 (cl : Int), .int .u32 (ce : Int), .int .i64 ck, .int .u64 (cv : Int), .int .u64 (cd : Int), .string ci, .string ca] w.heap.size C (v3.alloc (.cells #[.int .u64 (ea : Int), .int .u64 (ed : Int), .bool el, .int .i64 eu, .int .i64 ev, .int .i64 ex] (71 : Nat))) from by rw [← hv4]; exact BOV.out.below B4.out)).a).trans rfl
  have AV := IAt_val v4 X bn bp _ _ N' Q' (p1, p2) (DV.out.ix.below B4.out) HP.out
  have RA := Lib.hid (fun W (h : RI W R vS vL S L) => rAt_fun W R vS vL S L Q' p1 p2 h (by omega) ENV.out)
  obtain ⟨sid, hsid⟩ : ∃ z, z = (Q' (p1, p2)).getD ⟨#[]⟩ := ⟨_, rfl⟩
  obtain ⟨sb, hsb⟩ : ∃ z, z = (Q' (p1, p2)).isSome := ⟨_, rfl⟩
  rw [← hsid, ← hsb] at AV RA
  have HAV := Lib.hid AV
  have E1' := Lib.hid e1
  have E2 := Lib.hid e2
  have HV4 := Lib.hid hv4
  clear hb b4 e1 e2 hv4 AV hsid hsb c5b RN E1
  go_wp2_with fail
  rw [← HV4.out]
  refine HAV.out.mono ?_; rintro e v5 ⟨rfl, hb⟩
  have e1 := (hb.block _ (lt_of_rowR E1'.out)).trans E1'.out
  have e2 := (hb.block _ (lt_of_rowR E2.out)).trans E2.out
  have B5 := Lib.hid (stepR B4.out hb)
  have a8 : v5.cell? ⟨w.heap.size, 8, none⟩ = some (.int .i64 p1) := (cell_of_row _ _ 8 _ _ _ ((BOV.out.below B5.out)).a).trans rfl
  have a9 : v5.cell? ⟨w.heap.size, 9, none⟩ = some (.int .i64 p2) := (cell_of_row _ _ 9 _ _ _ ((BOV.out.below B5.out)).a).trans rfl
  have E1 := Lib.hid e1
  have E3 := Lib.hid e2
  clear hb e1 e2 a8b a9b HAV E1' E2
  go_wp2_with fail
  refine (RA.out v5 (RIV.out.below B5.out)).mono ?_; rintro e v6 ⟨rfl, hb⟩
  have e1 := (hb.block _ (lt_of_rowR E1.out)).trans E1.out
  have e2 := (hb.block _ (lt_of_rowR E3.out)).trans E3.out
  have B6 := Lib.hid (stepR B5.out hb)
  clear a8 a9
  have a8 : v6.cell? ⟨w.heap.size, 8, none⟩ = some (.int .i64 p1) := (cell_of_row _ _ 8 _ _ _ ((BOV.out.below B6.out)).a).trans rfl
  have IV := Lib.hid (IIn_val v6 X bn bp _ _ N' Q' p1 (DV.out.ix.below B6.out) (by omega) (fun i s h => (DV.out.gi.st i s h).2.2))
  have E1' := Lib.hid e1
  have E2 := Lib.hid e2
  clear hb e1 e2 RA E1 E3
  go_wp2_with fail
  refine IV.out.mono ?_; rintro e v7 ⟨⟨n1, n2, n3, rfl, hc⟩, hb⟩
  have hcs := hc _ NLV.out.en
  have e1 := (hb.block _ (lt_of_rowR E1'.out)).trans E1'.out
  have e2 := (hb.block _ (lt_of_rowR E2.out)).trans E2.out
  have B7 := Lib.hid (stepR B6.out hb)
  clear a8
  have a8 : v7.cell? ⟨w.heap.size, 8, none⟩ = some (.int .i64 p1) := (cell_of_row _ _ 8 _ _ _ ((BOV.out.below B7.out)).a).trans rfl
  have RV := rIn_val v7 R vS vL S L p1 (RIV.out.below B7.out) (by omega) HSZ4.out
  rw [← hcs.1, ← hcs.2.1, ← hcs.2.2] at RV
  have HRV := Lib.hid RV
  have E1 := Lib.hid e1
  have E3 := Lib.hid e2
  clear hb e1 e2 hc hcs RV IV E1' E2
  go_wp2_with fail
  refine HRV.out.mono ?_; rintro e v8 ⟨rfl, hb⟩
  have e1 := (hb.block _ (lt_of_rowR E1.out)).trans E1.out
  have e2 := (hb.block _ (lt_of_rowR E3.out)).trans E3.out
  have B8 := Lib.hid (stepR B7.out hb)
  have BO8 := Lib.hid (BOV.out.below B8.out)
  have RI8 := Lib.hid (RIV.out.below B8.out)
  have D8 := Lib.hid (DV.out.below B8.out)
  have BB8 := Lib.hid (BBV.out.trans (B8.out.mono (by have := BBV.out.size; have := HBB.out.2.2; omega)))
  have E1' := Lib.hid e1
  have E2 := Lib.hid e2
  clear hb e1 e2 a8 HRV E1 E3
  have E1 := Lib.hid E1'.out
  clear E1'
  go_wp2_with fail
  (try go_frame)
  refine wp_region_held (S := fun V => Bw v8 V) (by kernel_rfl) ?_
  obtain ⟨Wd, hWd⟩ : ∃ x, x = { v8 with drawn := v8.drawn + 1 } := ⟨_, rfl⟩
  have hS0 : Bw v8 Wd := ⟨by rw [hWd]; exact ⟨rfl, rfl, rfl, Nat.le_refl _, fun _ _ => rfl⟩⟩
  rw [← hWd]
  clear hWd
  have x0 : ∀ V, Bw v8 V → V.cell? ⟨v1.heap.size, 0, none⟩ = some (.int .u64 (ea : Int)) := fun V hV => (cell_of_row _ _ 0 _ _ _ ((hV.b.block _ (lt_of_rowR E1.out)).trans E1.out)).trans rfl
  have y0 : ∀ V, Bw v8 V → V.cell? ⟨v3.heap.size, 0, none⟩ = some (.int .u64 (ea : Int)) := fun V hV => (cell_of_row _ _ 0 _ _ _ ((hV.b.block _ (lt_of_rowR E2.out)).trans E2.out)).trans rfl
  have x1 : ∀ V, Bw v8 V → V.cell? ⟨v1.heap.size, 1, none⟩ = some (.int .u64 (ed : Int)) := fun V hV => (cell_of_row _ _ 1 _ _ _ ((hV.b.block _ (lt_of_rowR E1.out)).trans E1.out)).trans rfl
  have y1 : ∀ V, Bw v8 V → V.cell? ⟨v3.heap.size, 1, none⟩ = some (.int .u64 (ed : Int)) := fun V hV => (cell_of_row _ _ 1 _ _ _ ((hV.b.block _ (lt_of_rowR E2.out)).trans E2.out)).trans rfl
  have x2 : ∀ V, Bw v8 V → V.cell? ⟨v1.heap.size, 2, none⟩ = some (.bool el) := fun V hV => (cell_of_row _ _ 2 _ _ _ ((hV.b.block _ (lt_of_rowR E1.out)).trans E1.out)).trans rfl
  have y2 : ∀ V, Bw v8 V → V.cell? ⟨v3.heap.size, 2, none⟩ = some (.bool el) := fun V hV => (cell_of_row _ _ 2 _ _ _ ((hV.b.block _ (lt_of_rowR E2.out)).trans E2.out)).trans rfl
  have x3 : ∀ V, Bw v8 V → V.cell? ⟨v1.heap.size, 3, none⟩ = some (.int .i64 eu) := fun V hV => (cell_of_row _ _ 3 _ _ _ ((hV.b.block _ (lt_of_rowR E1.out)).trans E1.out)).trans rfl
  have y3 : ∀ V, Bw v8 V → V.cell? ⟨v3.heap.size, 3, none⟩ = some (.int .i64 eu) := fun V hV => (cell_of_row _ _ 3 _ _ _ ((hV.b.block _ (lt_of_rowR E2.out)).trans E2.out)).trans rfl
  have x4 : ∀ V, Bw v8 V → V.cell? ⟨v1.heap.size, 4, none⟩ = some (.int .i64 ev) := fun V hV => (cell_of_row _ _ 4 _ _ _ ((hV.b.block _ (lt_of_rowR E1.out)).trans E1.out)).trans rfl
  have y4 : ∀ V, Bw v8 V → V.cell? ⟨v3.heap.size, 4, none⟩ = some (.int .i64 ev) := fun V hV => (cell_of_row _ _ 4 _ _ _ ((hV.b.block _ (lt_of_rowR E2.out)).trans E2.out)).trans rfl
  have x5 : ∀ V, Bw v8 V → V.cell? ⟨v1.heap.size, 5, none⟩ = some (.int .i64 ex) := fun V hV => (cell_of_row _ _ 5 _ _ _ ((hV.b.block _ (lt_of_rowR E1.out)).trans E1.out)).trans rfl
  have y5 : ∀ V, Bw v8 V → V.cell? ⟨v3.heap.size, 5, none⟩ = some (.int .i64 ex) := fun V hV => (cell_of_row _ _ 5 _ _ _ ((hV.b.block _ (lt_of_rowR E2.out)).trans E2.out)).trans rfl
  have c5 : ∀ V, Bw v8 V → V.cell? ⟨C, 5, none⟩ = some (.string ci) := fun V hV => (cell_of_row _ _ 5 _ _ _ (BO8.out.below hV.b).c).trans rfl
  have a8 : ∀ V, Bw v8 V → V.cell? ⟨w.heap.size, 8, none⟩ = some (.int .i64 p1) := fun V hV => (cell_of_row _ _ 8 _ _ _ (BO8.out.below hV.b).a).trans rfl
  refine wpAnyH_take (i := 0) (v := .agg #[.int .u64 (ea : Int), .int .u64 (ed : Int), .bool el, .int .i64 eu, .int .i64 ev, .int .i64 ex]) rfl (by kernel_rfl) ?_ ?_ (fun _ _ _ h => h) (Or.inl ⟨by first | kernel_rfl | rfl, ?_⟩) hS0 ?_
  · kernel_rfl
  · kernel_rfl
  · intro V hV; go_simp
  refine wpAnyH_take (i := 2) (v := .agg #[.int .u64 (ea : Int), .int .u64 (ed : Int), .bool el, .int .i64 eu, .int .i64 ev, .int .i64 ex]) rfl (by kernel_rfl) ?_ ?_ (fun _ _ _ h => h) (Or.inl ⟨by first | kernel_rfl | rfl, ?_⟩) hS0 ?_
  · kernel_rfl
  · kernel_rfl
  · intro V hV; go_simp
  refine wpAnyH_ready (rs := [1]) (by kernel_rfl) (by simp) ?_
  refine AllReadyH.cons rfl (fun K' hK => ?_) AllReadyH.nil
  go_simp
  refine ((show Calls Try.prog 30 #[.agg #[.int .u64 (ea : Int), .int .u64 (ed : Int), .bool el, .int .i64 eu, .int .i64 ev, .int .i64 ex]] Wd fun e w' => e = .returned (.agg #[.int .u64 (ea : Int), .int .u64 (ed : Int), .bool el, .int .i64 eu, .int .i64 ev, .int .i64 ex]) ∧ Below Wd.heap.size Wd w' from RefE_val (⟨ea, ed, el, eu, ev, ex⟩ : Ent) Wd)).mono ?_; rintro e y1w ⟨rfl, b_⟩
  have BY1 := Lib.hid (show Bw v8 y1w from ⟨stepR hS0.b b_⟩)
  clear b_
  (try go_simp)
  refine hK.out _ _ (BY1.out) (fun hS1 => ?_)
  clear hK K' hS0
  refine wpAnyH_take (i := 3) (v := .bool false) rfl (by kernel_rfl) ?_ ?_ (fun _ _ _ h => h) (Or.inl ⟨by first | kernel_rfl | rfl, ?_⟩) hS1 ?_
  · kernel_rfl
  · kernel_rfl
  · intro V hV; go_simp
  refine wpAnyH_take (i := 4) (v := .bool false) rfl (by kernel_rfl) ?_ ?_ (fun _ _ _ h => h) (Or.inl ⟨by first | kernel_rfl | rfl, ?_⟩) hS1 ?_
  · kernel_rfl
  · kernel_rfl
  · intro V hV; go_simp
  refine wpAnyH_take (i := 5) (v := .bool es) rfl (by kernel_rfl) ?_ ?_ (fun _ _ _ h => h) (Or.inl ⟨by first | kernel_rfl | rfl, ?_⟩) hS1 ?_
  · kernel_rfl
  · kernel_rfl
  · intro V hV; go_simp
  refine wpAnyH_take (i := 6) (v := .bool es) rfl (by kernel_rfl) ?_ ?_ (fun _ _ _ h => h) (Or.inl ⟨by first | kernel_rfl | rfl, ?_⟩) hS1 ?_
  · kernel_rfl
  · kernel_rfl
  · intro V hV; go_simp
  refine wpAnyH_take (i := 7) (v := .bool false) rfl (by kernel_rfl) ?_ ?_ (fun _ _ _ h => h) (Or.inl ⟨by first | kernel_rfl | rfl, ?_⟩) hS1 ?_
  · kernel_rfl
  · kernel_rfl
  · intro V hV; go_simp
  refine wpAnyH_take (i := 8) (v := .bool false) rfl (by kernel_rfl) ?_ ?_ (fun _ _ _ h => h) (Or.inl ⟨by first | kernel_rfl | rfl, ?_⟩) hS1 ?_
  · kernel_rfl
  · kernel_rfl
  · intro V hV; go_simp
  refine wpAnyH_take (i := 9) (v := .bool false) rfl (by kernel_rfl) ?_ ?_ (fun _ _ _ h => h) (Or.inl ⟨by first | kernel_rfl | rfl, ?_⟩) hS1 ?_
  · kernel_rfl
  · kernel_rfl
  · intro V hV; go_simp
  refine wpAnyH_take (i := 10) (v := .string sid) rfl (by kernel_rfl) ?_ ?_ (fun _ _ _ h => h) (Or.inl ⟨by first | kernel_rfl | rfl, ?_⟩) hS1 ?_
  · kernel_rfl
  · kernel_rfl
  · intro V hV; go_simp
  refine wpAnyH_take (i := 11) (v := .string sid) rfl (by kernel_rfl) ?_ ?_ (fun _ _ _ h => h) (Or.inl ⟨by first | kernel_rfl | rfl, ?_⟩) hS1 ?_
  · kernel_rfl
  · kernel_rfl
  · intro V hV; go_simp
  refine wpAnyH_take (i := 12) (v := .bool false) rfl (by kernel_rfl) ?_ ?_ (fun _ _ _ h => h) (Or.inl ⟨by first | kernel_rfl | rfl, ?_⟩) hS1 ?_
  · kernel_rfl
  · kernel_rfl
  · intro V hV; go_simp
  refine wpAnyH_take (i := 13) (v := .bool false) rfl (by kernel_rfl) ?_ ?_ (fun _ _ _ h => h) (Or.inl ⟨by first | kernel_rfl | rfl, ?_⟩) hS1 ?_
  · kernel_rfl
  · kernel_rfl
  · intro V hV; go_simp
  refine wpAnyH_take (i := 14) (v := .bool false) rfl (by kernel_rfl) ?_ ?_ (fun _ _ _ h => h) (Or.inl ⟨by first | kernel_rfl | rfl, ?_⟩) hS1 ?_
  · kernel_rfl
  · kernel_rfl
  · intro V hV; go_simp
  refine wpAnyH_take (i := 15) (v := .bool sb) rfl (by kernel_rfl) ?_ ?_ (fun _ _ _ h => h) (Or.inl ⟨by first | kernel_rfl | rfl, ?_⟩) hS1 ?_
  · kernel_rfl
  · kernel_rfl
  · intro V hV; go_simp
  refine wpAnyH_take (i := 16) (v := .bool sb) rfl (by kernel_rfl) ?_ ?_ (fun _ _ _ h => h) (Or.inl ⟨by first | kernel_rfl | rfl, ?_⟩) hS1 ?_
  · kernel_rfl
  · kernel_rfl
  · intro V hV; go_simp
  refine wpAnyH_take (i := 17) (v := .bool false) rfl (by kernel_rfl) ?_ ?_ (fun _ _ _ h => h) (Or.inl ⟨by first | kernel_rfl | rfl, ?_⟩) hS1 ?_
  · kernel_rfl
  · kernel_rfl
  · intro V hV; go_simp
  refine wpAnyH_take (i := 18) (v := .bool false) rfl (by kernel_rfl) ?_ ?_ (fun _ _ _ h => h) (Or.inl ⟨by first | kernel_rfl | rfl, ?_⟩) hS1 ?_
  · kernel_rfl
  · kernel_rfl
  · intro V hV; go_simp
  refine wpAnyH_take (i := 19) (v := .bool false) rfl (by kernel_rfl) ?_ ?_ (fun _ _ _ h => h) (Or.inl ⟨by first | kernel_rfl | rfl, ?_⟩) hS1 ?_
  · kernel_rfl
  · kernel_rfl
  · intro V hV; go_simp
  refine wpAnyH_take (i := 20) (v := .int .i64 n1) rfl (by kernel_rfl) ?_ ?_ (fun _ _ _ h => h) (Or.inl ⟨by first | kernel_rfl | rfl, ?_⟩) hS1 ?_
  · kernel_rfl
  · kernel_rfl
  · intro V hV; go_simp
  refine wpAnyH_take (i := 21) (v := .int .i64 n1) rfl (by kernel_rfl) ?_ ?_ (fun _ _ _ h => h) (Or.inl ⟨by first | kernel_rfl | rfl, ?_⟩) hS1 ?_
  · kernel_rfl
  · kernel_rfl
  · intro V hV; go_simp
  refine wpAnyH_take (i := 22) (v := .bool false) rfl (by kernel_rfl) ?_ ?_ (fun _ _ _ h => h) (Or.inl ⟨by first | kernel_rfl | rfl, ?_⟩) hS1 ?_
  · kernel_rfl
  · kernel_rfl
  · intro V hV; go_simp
  refine wpAnyH_take (i := 23) (v := .bool false) rfl (by kernel_rfl) ?_ ?_ (fun _ _ _ h => h) (Or.inl ⟨by first | kernel_rfl | rfl, ?_⟩) hS1 ?_
  · kernel_rfl
  · kernel_rfl
  · intro V hV; go_simp
  refine wpAnyH_take (i := 24) (v := .bool false) rfl (by kernel_rfl) ?_ ?_ (fun _ _ _ h => h) (Or.inl ⟨by first | kernel_rfl | rfl, ?_⟩) hS1 ?_
  · kernel_rfl
  · kernel_rfl
  · intro V hV; go_simp
  refine wpAnyH_take (i := 25) (v := .int .i64 n2) rfl (by kernel_rfl) ?_ ?_ (fun _ _ _ h => h) (Or.inl ⟨by first | kernel_rfl | rfl, ?_⟩) hS1 ?_
  · kernel_rfl
  · kernel_rfl
  · intro V hV; go_simp
  refine wpAnyH_take (i := 26) (v := .int .i64 n2) rfl (by kernel_rfl) ?_ ?_ (fun _ _ _ h => h) (Or.inl ⟨by first | kernel_rfl | rfl, ?_⟩) hS1 ?_
  · kernel_rfl
  · kernel_rfl
  · intro V hV; go_simp
  refine wpAnyH_take (i := 27) (v := .bool false) rfl (by kernel_rfl) ?_ ?_ (fun _ _ _ h => h) (Or.inl ⟨by first | kernel_rfl | rfl, ?_⟩) hS1 ?_
  · kernel_rfl
  · kernel_rfl
  · intro V hV; go_simp
  refine wpAnyH_take (i := 28) (v := .bool false) rfl (by kernel_rfl) ?_ ?_ (fun _ _ _ h => h) (Or.inl ⟨by first | kernel_rfl | rfl, ?_⟩) hS1 ?_
  · kernel_rfl
  · kernel_rfl
  · intro V hV; go_simp
  refine wpAnyH_take (i := 29) (v := .bool false) rfl (by kernel_rfl) ?_ ?_ (fun _ _ _ h => h) (Or.inl ⟨by first | kernel_rfl | rfl, ?_⟩) hS1 ?_
  · kernel_rfl
  · kernel_rfl
  · intro V hV; go_simp
  refine wpAnyH_take (i := 30) (v := .int .i64 n3) rfl (by kernel_rfl) ?_ ?_ (fun _ _ _ h => h) (Or.inl ⟨by first | kernel_rfl | rfl, ?_⟩) hS1 ?_
  · kernel_rfl
  · kernel_rfl
  · intro V hV; go_simp
  refine wpAnyH_take (i := 31) (v := .int .i64 n3) rfl (by kernel_rfl) ?_ ?_ (fun _ _ _ h => h) (Or.inl ⟨by first | kernel_rfl | rfl, ?_⟩) hS1 ?_
  · kernel_rfl
  · kernel_rfl
  · intro V hV; go_simp
  refine wpAnyH_take (i := 32) (v := .bool false) rfl (by kernel_rfl) ?_ ?_ (fun _ _ _ h => h) (Or.inl ⟨by first | kernel_rfl | rfl, ?_⟩) hS1 ?_
  · kernel_rfl
  · kernel_rfl
  · intro V hV; go_simp
  refine wpAnyH_take (i := 33) (v := .bool false) rfl (by kernel_rfl) ?_ ?_ (fun _ _ _ h => h) (Or.inl ⟨by first | kernel_rfl | rfl, ?_⟩) hS1 ?_
  · kernel_rfl
  · kernel_rfl
  · intro V hV; go_simp
  refine wpAnyH_take (i := 34) (v := .bool false) rfl (by kernel_rfl) ?_ ?_ (fun _ _ _ h => h) (Or.inl ⟨by first | kernel_rfl | rfl, ?_⟩) hS1 ?_
  · kernel_rfl
  · kernel_rfl
  · intro V hV; go_simp
  refine wpAnyH_take (i := 35) (v := .pointer (some ⟨X, 0, none⟩)) rfl (by kernel_rfl) ?_ ?_ (fun _ _ _ h => h) (Or.inl ⟨by first | kernel_rfl | rfl, ?_⟩) hS1 ?_
  · kernel_rfl
  · kernel_rfl
  · intro V hV; go_simp
  refine wpAnyH_take (i := 36) (v := .pointer (some ⟨C, 5, none⟩)) rfl (by kernel_rfl) ?_ ?_ (fun _ _ _ h => h) (Or.inl ⟨by first | kernel_rfl | rfl, ?_⟩) hS1 ?_
  · kernel_rfl
  · kernel_rfl
  · intro V hV; go_simp
  refine wpAnyH_take (i := 37) (v := .string ci) rfl (by kernel_rfl) ?_ ?_ (fun _ _ _ h => h) (Or.inl ⟨by first | kernel_rfl | rfl, ?_⟩) hS1 ?_
  · kernel_rfl
  · kernel_rfl
  · intro V hV; go_simp
  refine wpAnyH_take (i := 38) (v := .pointer (some ⟨w.heap.size, 8, none⟩)) rfl (by kernel_rfl) ?_ ?_ (fun _ _ _ h => h) (Or.inl ⟨by first | kernel_rfl | rfl, ?_⟩) hS1 ?_
  · kernel_rfl
  · kernel_rfl
  · intro V hV; go_simp
  refine wpAnyH_take (i := 39) (v := .pointer (some ⟨w.heap.size, 8, none⟩)) rfl (by kernel_rfl) ?_ ?_ (fun _ _ _ h => h) (Or.inl ⟨by first | kernel_rfl | rfl, ?_⟩) hS1 ?_
  · kernel_rfl
  · kernel_rfl
  · intro V hV; go_simp
  refine wpAnyH_take (i := 40) (v := .int .i64 p1) rfl (by kernel_rfl) ?_ ?_ (fun _ _ _ h => h) (Or.inl ⟨by first | kernel_rfl | rfl, ?_⟩) hS1 ?_
  · kernel_rfl
  · kernel_rfl
  · intro V hV; go_simp
  refine wpAnyH_take (i := 42) (v := .pointer (some ⟨R, 0, none⟩)) rfl (by kernel_rfl) ?_ ?_ (fun _ _ _ h => h) (Or.inl ⟨by first | kernel_rfl | rfl, ?_⟩) hS1 ?_
  · kernel_rfl
  · kernel_rfl
  · intro V hV; go_simp
  refine wpAnyH_take (i := 43) (v := .pointer (some ⟨C, 5, none⟩)) rfl (by kernel_rfl) ?_ ?_ (fun _ _ _ h => h) (Or.inl ⟨by first | kernel_rfl | rfl, ?_⟩) hS1 ?_
  · kernel_rfl
  · kernel_rfl
  · intro V hV; go_simp
  refine wpAnyH_take (i := 44) (v := .string ci) rfl (by kernel_rfl) ?_ ?_ (fun _ _ _ h => h) (Or.inl ⟨by first | kernel_rfl | rfl, ?_⟩) hS1 ?_
  · kernel_rfl
  · kernel_rfl
  · intro V hV; go_simp
  refine wpAnyH_take (i := 45) (v := .pointer (some ⟨w.heap.size, 8, none⟩)) rfl (by kernel_rfl) ?_ ?_ (fun _ _ _ h => h) (Or.inl ⟨by first | kernel_rfl | rfl, ?_⟩) hS1 ?_
  · kernel_rfl
  · kernel_rfl
  · intro V hV; go_simp
  refine wpAnyH_take (i := 46) (v := .pointer (some ⟨w.heap.size, 8, none⟩)) rfl (by kernel_rfl) ?_ ?_ (fun _ _ _ h => h) (Or.inl ⟨by first | kernel_rfl | rfl, ?_⟩) hS1 ?_
  · kernel_rfl
  · kernel_rfl
  · intro V hV; go_simp
  refine wpAnyH_take (i := 47) (v := .int .i64 p1) rfl (by kernel_rfl) ?_ ?_ (fun _ _ _ h => h) (Or.inl ⟨by first | kernel_rfl | rfl, ?_⟩) hS1 ?_
  · kernel_rfl
  · kernel_rfl
  · intro V hV; go_simp
  refine wpAnyH_ready (rs := [41]) (by kernel_rfl) (by simp) ?_
  refine AllReadyH.cons rfl (fun K' hK => ?_) AllReadyH.nil
  go_simp
  refine (IOthers_val y1w X bn bp _ _ N' Q' ci p1 (D8.out.ix.below hS1.b) (by omega)).mono ?_; rintro e y2w ⟨⟨c_, rfl, hc_⟩, b_⟩
  have BY2 := Lib.hid (show Bw v8 y2w from ⟨stepR hS1.b b_⟩)
  have e_ := hc_ _ ENV.out
  obtain ⟨oth, hoth⟩ : ∃ z, z = (S.map (othG ci p1)).sum := ⟨_, rfl⟩
  rw [← hoth] at e_
  have e_ := e_.symm
  subst e_
  have HOTH := Lib.hid hoth
  clear hc_ hoth
  clear b_
  (try go_simp)
  refine hK.out _ _ (BY2.out) (fun hS2 => ?_)
  clear hK K' hS1
  refine wpAnyH_ready (rs := [48]) (by kernel_rfl) (by simp) ?_
  refine AllReadyH.cons rfl (fun K' hK => ?_) AllReadyH.nil
  go_simp
  refine ((show Calls Try.prog 31 #[.pointer (some ⟨R, 0, none⟩), .string ci, .int .i64 p1] y2w fun e w' => e = .returned (.int .i64 oth) ∧ Below y2w.heap.size y2w w' from by have h := rOthers_val y2w R vS vL S L ci p1 (RI8.out.below hS2.b) (by omega); rw [← HOTH.out] at h; exact h)).mono ?_; rintro e y3w ⟨rfl, b_⟩
  have BY3 := Lib.hid (show Bw v8 y3w from ⟨stepR hS2.b b_⟩)
  clear b_
  (try go_simp)
  refine hK.out _ _ (BY3.out) (fun hS3 => ?_)
  clear hK K' hS2
  refine wpAnyH_take (i := 49) (v := .bool false) rfl (by kernel_rfl) ?_ ?_ (fun _ _ _ h => h) (Or.inl ⟨by first | kernel_rfl | rfl, ?_⟩) hS3 ?_
  · kernel_rfl
  · kernel_rfl
  · intro V hV; go_simp
  refine wpAnyH_take (i := 50) (v := .bool false) rfl (by kernel_rfl) ?_ ?_ (fun _ _ _ h => h) (Or.inl ⟨by first | kernel_rfl | rfl, ?_⟩) hS3 ?_
  · kernel_rfl
  · kernel_rfl
  · intro V hV; go_simp
  refine wpAnyH_take (i := 51) (v := .bool false) rfl (by kernel_rfl) ?_ ?_ (fun _ _ _ h => h) (Or.inl ⟨by first | kernel_rfl | rfl, ?_⟩) hS3 ?_
  · kernel_rfl
  · kernel_rfl
  · intro V hV; go_simp
  refine wpAnyH_take (i := 52) (v := .pointer (some ⟨X, 0, none⟩)) rfl (by kernel_rfl) ?_ ?_ (fun _ _ _ h => h) (Or.inl ⟨by first | kernel_rfl | rfl, ?_⟩) hS3 ?_
  · kernel_rfl
  · kernel_rfl
  · intro V hV; go_simp
  refine wpAnyH_take (i := 54) (v := .pointer (some ⟨R, 0, none⟩)) rfl (by kernel_rfl) ?_ ?_ (fun _ _ _ h => h) (Or.inl ⟨by first | kernel_rfl | rfl, ?_⟩) hS3 ?_
  · kernel_rfl
  · kernel_rfl
  · intro V hV; go_simp
  refine wpAnyH_ready (rs := [53]) (by kernel_rfl) (by simp) ?_
  refine AllReadyH.cons rfl (fun K' hK => ?_) AllReadyH.nil
  go_simp
  refine (ILives_val y3w X bn bp _ _ N' Q' (D8.out.ix.below hS3.b) (by omega) NSZ.out).mono ?_; rintro e y4w ⟨⟨ks_, rfl, hk_, _⟩, b_⟩
  have BY4 := Lib.hid (show Bw v8 y4w from ⟨stepR hS3.b b_⟩)
  rw [NLV.out.ids hk_]
  obtain ⟨nl, hnl⟩ : ∃ z, z = (livIds L).length := ⟨_, rfl⟩
  rw [← hnl]
  have HNLL := Lib.hid hnl
  clear hk_ hnl
  clear b_
  (try go_simp)
  refine hK.out _ _ (BY4.out) (fun hS4 => ?_)
  clear hK K' hS3
  refine wpAnyH_ready (rs := [55]) (by kernel_rfl) (by simp) ?_
  refine AllReadyH.cons rfl (fun K' hK => ?_) AllReadyH.nil
  go_simp
  refine (rIDs_val y4w R vS vL S L (RI8.out.below hS4.b) (by omega)).mono ?_; rintro e y5w ⟨⟨u_, rfl, hu_⟩, b_⟩
  have BY5 := Lib.hid (show Bw v8 y5w from ⟨stepR hS4.b b_⟩)
  obtain ⟨o1, q1, rfl⟩ := hu_.form
  rw [← HNLL.out]
  clear hu_
  clear b_
  (try go_simp)
  refine hK.out _ _ (BY5.out) (fun hS5 => ?_)
  clear hK K' hS4
  refine wpAnyH_take (i := 56) (v := .int .i64 (nl : Int)) rfl (by kernel_rfl) ?_ ?_ (fun _ _ _ h => h) (Or.inl ⟨by first | kernel_rfl | rfl, ?_⟩) hS5 ?_
  · kernel_rfl
  · kernel_rfl
  · intro V hV; go_simp
  refine wpAnyH_take (i := 57) (v := .bool false) rfl (by kernel_rfl) ?_ ?_ (fun _ _ _ h => h) (Or.inl ⟨by first | kernel_rfl | rfl, ?_⟩) hS5 ?_
  · kernel_rfl
  · kernel_rfl
  · intro V hV; go_simp
  refine wpAnyH_take (i := 58) (v := .bool false) rfl (by kernel_rfl) ?_ ?_ (fun _ _ _ h => h) (Or.inl ⟨by first | kernel_rfl | rfl, ?_⟩) hS5 ?_
  · kernel_rfl
  · kernel_rfl
  · intro V hV; go_simp
  refine wpAnyH_take (i := 59) (v := .bool false) rfl (by kernel_rfl) ?_ ?_ (fun _ _ _ h => h) (Or.inl ⟨by first | kernel_rfl | rfl, ?_⟩) hS5 ?_
  · kernel_rfl
  · kernel_rfl
  · intro V hV; go_simp
  refine wpAnyH_take (i := 60) (v := .pointer (some ⟨X, 0, none⟩)) rfl (by kernel_rfl) ?_ ?_ (fun _ _ _ h => h) (Or.inl ⟨by first | kernel_rfl | rfl, ?_⟩) hS5 ?_
  · kernel_rfl
  · kernel_rfl
  · intro V hV; go_simp
  refine wpAnyH_take (i := 62) (v := .pointer (some ⟨R, 0, none⟩)) rfl (by kernel_rfl) ?_ ?_ (fun _ _ _ h => h) (Or.inl ⟨by first | kernel_rfl | rfl, ?_⟩) hS5 ?_
  · kernel_rfl
  · kernel_rfl
  · intro V hV; go_simp
  refine wpAnyH_ready (rs := [61]) (by kernel_rfl) (by simp) ?_
  refine AllReadyH.cons rfl (fun K' hK => ?_) AllReadyH.nil
  go_simp
  refine (IIDs_val y5w X bn bp _ _ N' Q' (D8.out.ix.below hS5.b) (by omega) NSZ.out).mono ?_; rintro e y6w ⟨⟨u_, ks_, rfl, hk_, _, hu_⟩, b_⟩
  have BY6 := Lib.hid (show Bw v8 y6w from ⟨stepR hS5.b b_⟩)
  rw [NLV.out.ids hk_] at hu_
  have HU := Lib.hid hu_
  clear hk_ hu_
  clear b_
  (try go_simp)
  refine hK.out _ _ (BY6.out) (fun hS6 => ?_)
  clear hK K' hS5
  refine wpAnyH_ready (rs := [63]) (by kernel_rfl) (by simp) ?_
  refine AllReadyH.cons rfl (fun K' hK => ?_) AllReadyH.nil
  go_simp
  refine (rIDs_val y6w R vS vL S L (RI8.out.below hS6.b) (by omega)).mono ?_; rintro e y7w ⟨⟨z_, rfl, hz_⟩, b_⟩
  have BY7 := Lib.hid (show Bw v8 y7w from ⟨stepR hS6.b b_⟩)
  have hww := Words_val y7w u_ z_ (livIds L) (livIds L) (HU.out.below b_ (Nat.le_refl _)) hz_ (Nat.le_trans (livIds_len L) (by omega)) (Nat.le_trans (livIds_len L) (by omega))
  rw [decide_eq_true rfl] at hww
  have HWW := Lib.hid hww
  clear hww hz_
  clear b_
  (try go_simp)
  refine hK.out _ _ (BY7.out) (fun hS7 => ?_)
  clear hK K' hS6
  refine wpAnyH_ready (rs := [64]) (by kernel_rfl) (by simp) ?_
  refine AllReadyH.cons rfl (fun K' hK => ?_) AllReadyH.nil
  go_simp
  refine (HWW.out).mono ?_; rintro e y8w ⟨rfl, b_⟩
  have BY8 := Lib.hid (show Bw v8 y8w from ⟨stepR hS7.b b_⟩)
  clear b_
  (try go_simp)
  refine hK.out _ _ (BY8.out) (fun hS8 => ?_)
  clear hK K' hS7
  refine wpAnyH_take (i := 65) (v := .bool false) rfl (by kernel_rfl) ?_ ?_ (fun _ _ _ h => h) (Or.inl ⟨by first | kernel_rfl | rfl, ?_⟩) hS8 ?_
  · kernel_rfl
  · kernel_rfl
  · intro V hV; go_simp
  refine wpAnyH_take (i := 66) (v := .bool false) rfl (by kernel_rfl) ?_ ?_ (fun _ _ _ h => h) (Or.inl ⟨by first | kernel_rfl | rfl, ?_⟩) hS8 ?_
  · kernel_rfl
  · kernel_rfl
  · intro V hV; go_simp
  have BFIN := Lib.hid hS8.b
  clear hS8 x0 y0 x1 y1 x2 y2 x3 y3 x4 y4 x5 y5 c5 a8
  refine wpAnyH_done (by kernel_rfl) ?_ _
  go_wp2_with fail
  go_ret
  exact ⟨rfl, ⟨N', Q', D8.out.below BFIN.out⟩, BB8.out.trans (BFIN.out.mono (by have := BB8.out.size; have := HBB.out.2.2; omega))⟩

end Go.Proofs.Ythpompgcnemanaa.G
