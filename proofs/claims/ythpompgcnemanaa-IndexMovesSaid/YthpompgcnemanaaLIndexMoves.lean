/- IndexMoves: whatever is handed in, the law answers true. No condition. -/
import Derived.Test.YthpompgcnemanaaIo
import Derived.Test.YthpompgcnemanaaGFast
import Derived.BigQuiet
namespace Go.Proofs.Ythpompgcnemanaa.L
open Go.RowKit Go.Maps Go.Proofs.Ythpompgcnemanaa.G Go.Proofs.Ythpompgcnemanaa.WordPlain Go.Proofs.Ythpompgcnemanaa.Loose
set_option linter.unusedVariables false
set_option linter.unusedSimpArgs false

theorem setRow_other (w : World) (g i : Nat) (cs : Array Value) (h : i ≠ g) : (w.setRow g cs).heap[i]? = w.heap[i]? := by
  show (w.heap.modify g _)[i]? = _
  rw [Array.getElem?_modify]
  rw [if_neg (fun e => h e.symm)]
theorem setRow_size (w : World) (g : Nat) (cs : Array Value) : (w.setRow g cs).heap.size = w.heap.size := by
  show (w.heap.modify g _).size = _
  rw [Array.size_modify]
/-- the boxes: the record, cut, and both places -/
structure Bx (W : World) (A l ep : Nat) (k : Int) (ve dd : Nat) (i va : ByteArray) (f1 f2 t1 t2 : Int) : Prop where
  ra : W.heap[A]? = some (.cells #[.int .u64 (l : Int), .int .u32 (ep : Int), .int .i64 k, .int .u64 (ve : Int), .int .u64 (dd : Int), .string i, .string va] (34 : Nat) (0, 0))
  rf : W.heap[A + 1]? = some (.cells #[.int .i64 f1, .int .i64 f2] (36 : Nat) (0, 0))
  rt : W.heap[A + 2]? = some (.cells #[.int .i64 t1, .int .i64 t2] (36 : Nat) (0, 0))
section
variable {W V : World} {A l ep : Nat} {k : Int} {ve dd : Nat} {i va : ByteArray} {f1 f2 t1 t2 : Int} {bn bp : Nat}
theorem Bx.mq (h : Bx W A l ep k ve dd i va f1 f2 t1 t2) (hm : Mq bn bp W V) (h1 : A + 2 < bn) (h2 : A + 2 < bp) : Bx V A l ep k ve dd i va f1 f2 t1 t2 := ⟨hm.row h.ra (by omega) (by omega), hm.row h.rf (by omega) (by omega), hm.row h.rt (by omega) (by omega)⟩
theorem Bx.below (h : Bx W A l ep k ve dd i va f1 f2 t1 t2) (hb : Below W.heap.size W V) : Bx V A l ep k ve dd i va f1 f2 t1 t2 := ⟨(hb.block _ (lt_of_rowR h.ra)).trans h.ra, (hb.block _ (lt_of_rowR h.rf)).trans h.rf, (hb.block _ (lt_of_rowR h.rt)).trans h.rt⟩
theorem Bx.cells (h : Bx W A l ep k ve dd i va f1 f2 t1 t2) : W.cell? ⟨A, 0, none⟩ = some (.int .u64 (l : Int)) ∧ W.cell? ⟨A, 1, none⟩ = some (.int .u32 (ep : Int)) ∧ W.cell? ⟨A, 2, none⟩ = some (.int .i64 k) ∧ W.cell? ⟨A, 3, none⟩ = some (.int .u64 (ve : Int)) ∧ W.cell? ⟨A, 4, none⟩ = some (.int .u64 (dd : Int)) ∧ W.cell? ⟨A, 5, none⟩ = some (.string i) ∧ W.cell? ⟨A, 6, none⟩ = some (.string va) ∧ W.cell? ⟨A + 1, 0, none⟩ = some (.int .i64 f1) ∧ W.cell? ⟨A + 1, 1, none⟩ = some (.int .i64 f2) ∧ W.cell? ⟨A + 2, 0, none⟩ = some (.int .i64 t1) ∧ W.cell? ⟨A + 2, 1, none⟩ = some (.int .i64 t2) :=
  ⟨(cell_of_row _ _ 0 _ _ _ h.ra).trans rfl, (cell_of_row _ _ 1 _ _ _ h.ra).trans rfl, (cell_of_row _ _ 2 _ _ _ h.ra).trans rfl, (cell_of_row _ _ 3 _ _ _ h.ra).trans rfl, (cell_of_row _ _ 4 _ _ _ h.ra).trans rfl, (cell_of_row _ _ 5 _ _ _ h.ra).trans rfl, (cell_of_row _ _ 6 _ _ _ h.ra).trans rfl, (cell_of_row _ _ 0 _ _ _ h.rf).trans rfl, (cell_of_row _ _ 1 _ _ _ h.rf).trans rfl, (cell_of_row _ _ 0 _ _ _ h.rt).trans rfl, (cell_of_row _ _ 1 _ _ _ h.rt).trans rfl⟩
end
/-- what is said of a record that is moved -/
theorem mv_takes {Q : Plc → Option ByteArray} {r : Rec} {p : Plc} (hk : r.kind = 1) (hq : Q p = none) : takes Q r p := ⟨hq, Or.inl hk⟩
def mvN (r : Rec) (p : Plc) : ByteArray → Option Ent := updM (fun _ => none) r.id (some (r.ent p))
def mvQ (r : Rec) (p : Plc) : Plc → Option ByteArray := updM (fun _ => none) p (some r.id)
def mvQ2 (r : Rec) (f t : Plc) : Plc → Option ByteArray := updM (mvQ r f) t (some r.id)
theorem mv_a1 {r : Rec} (f : Plc) (hk : r.kind = 1) : addB (fun _ => none) (fun _ => none) r f = true ∧ addN (fun _ => none) (fun _ => none) r f = mvN r f ∧ addQ (fun _ => none) r f = mvQ r f := by
  have h1 : takes (fun _ => none) r f := mv_takes hk rfl
  have h2 : news (fun _ => none) r := fun e he => by cases he
  exact ⟨decide_eq_true ⟨h1, h2⟩, addN_yes h1 h2, addQ_yes h1⟩
theorem mv_a2 {r : Rec} {f t : Plc} (hk : r.kind = 1) (hft : ¬ f.1 = t.1) : addB (mvN r f) (mvQ r f) r t = true ∧ addN (mvN r f) (mvQ r f) r t = mvN r t ∧ addQ (mvQ r f) r t = mvQ2 r f t := by
  have h1 : takes (mvQ r f) r t := mv_takes hk (updM_other (fun e => hft (by rw [e])))
  have h2 : news (mvN r f) r := fun e he => by
    rw [show mvN r f r.id = some (r.ent f) from updM_same _ _ _] at he
    rw [← Option.some.inj he]; exact Nat.le_refl _
  refine ⟨decide_eq_true ⟨h1, h2⟩, (addN_yes h1 h2).trans ?_, addQ_yes h1⟩
  funext x
  unfold mvN
  by_cases e : x = r.id
  · rw [e, updM_same, updM_same]
  · rw [updM_other e, updM_other e, updM_other e]
theorem mv_en (r : Rec) (t : Plc) : En (mvN r t) [(r.id, r.ent t)] := En.nil.put r.id (r.ent t)
theorem mv_q1 (r : Rec) (t : Plc) : En (mvQ r t) [(t, r.id)] := En.nil.put t r.id
theorem mv_q2 (r : Rec) {f t : Plc} (hft : ¬ f.1 = t.1) : En (mvQ2 r f t) [(t, r.id), (f, r.id)] := by
  have h := (mv_q1 r f).put t r.id
  have e : List.filter (fun p : Plc × ByteArray => !decide (p.1 = t)) [(f, r.id)] = [(f, r.id)] := by
    have : ¬ f = t := fun e => hft (by rw [e])
    simp [this]
  rw [e] at h
  exact h
theorem mv_g1 (r : Rec) {f t : Plc} (hft : ¬ f.1 = t.1) : goneN1 (mvN r t) (mvQ2 r f t) f.1 = mvN r t := by
  funext x
  unfold goneN1
  cases h : mvN r t x with
  | none => rfl
  | some e =>
    have : e = r.ent t := by
      unfold mvN updM at h
      split at h
      · exact (Option.some.inj h).symm
      · cases h
    subst this
    exact if_neg (fun hh => hft hh.1.symm)
theorem mv_gq (r : Rec) {f t : Plc} (hft : ¬ f.1 = t.1) : goneQ1 (mvQ2 r f t) f.1 = mvQ r t := by
  funext x
  unfold goneQ1 mvQ2 mvQ
  by_cases h1 : x = t
  · rw [h1, updM_same, updM_same, if_neg (fun e => hft e.symm)]
  · rw [updM_other h1]
    by_cases h2 : x = f
    · rw [h2, if_pos rfl, updM_other (fun e => hft (by rw [e]))]
    · rw [updM_other h2, updM_other h1]
      split <;> rfl
theorem mv_g2 (r : Rec) (t : Plc) : goneN1 (mvN r t) (mvQ r t) t.1 = fun _ => none := by
  funext x
  unfold goneN1 mvN
  by_cases h : x = r.id
  · rw [h, updM_same]
    exact if_pos ⟨rfl, updM_same _ _ _⟩
  · rw [updM_other h]
theorem mv_gq2 (r : Rec) (t : Plc) : goneQ1 (mvQ r t) t.1 = fun _ => none := by
  funext x
  unfold goneQ1 mvQ
  by_cases h : x = t
  · rw [h, if_pos rfl]
  · rw [updM_other h]; split <;> rfl
theorem mv_keys {r : Rec} {t : Plc} {ks : List ByteArray} (hk : r.kind = 1) (h : KeysL (mvN r t) ks) : (ks.filter (livB (mvN r t))).length = 1 := by
  have h2 : KeysL (mvN r t) [r.id] := ⟨List.pairwise_singleton _ _, fun k => by rw [(mv_en r t).mem]; rfl⟩
  rw [keysL_uniq h h2]
  have e : livB (mvN r t) r.id = true := by
    unfold livB
    rw [show mvN r t r.id = some (r.ent t) from updM_same _ _ _]
    exact decide_eq_true hk
  rw [List.filter_cons_of_pos e]; rfl
theorem mv_keys0 {ks : List ByteArray} (h : KeysL (fun _ => none) ks) : (ks.filter (livB (fun _ => none))).length = 0 := by
  have h2 : KeysL (fun _ => none) [] := ⟨List.Pairwise.nil, fun k => by simp⟩
  rw [keysL_uniq h h2]; rfl
set_option maxRecDepth 100000 in
set_option maxHeartbeats 16000000 in
theorem moves_main (r : Rec) (f t : Plc) (w : World) (hf : kP.ok f) (ht : kP.ok t) :
    Calls Try.prog 6 #[.agg #[.int .u64 (r.lsn : Int), .int .u32 (r.ep : Int), .int .i64 r.kind, .int .u64 (r.ver : Int), .int .u64 (r.dl : Int), .string r.id, .string r.va], .agg #[.int .i64 f.1, .int .i64 f.2], .agg #[.int .i64 t.1, .int .i64 t.2]] w fun e w' => e = .returned (.bool true) ∧ Below w.heap.size w w' := by
  obtain ⟨l, ep, k, ve, dd, i0, va0⟩ := r
  obtain ⟨f1, f2⟩ := f
  obtain ⟨t1, t2⟩ := t
  simp only
  have cv := fun W => CutR_val (⟨l, ep, k, ve, dd, i0, va0⟩ : Rec) W
  have ci : (Rec.cut ⟨l, ep, k, ve, dd, i0, va0⟩).id.size ≤ 80 := by show (i0.extract 0 _).size ≤ 80; rw [ByteArray.size_extract]; omega
  have cw : (Rec.cut ⟨l, ep, k, ve, dd, i0, va0⟩).va.size ≤ 80 := by show (va0.extract 0 _).size ≤ 80; rw [ByteArray.size_extract]; omega
  obtain ⟨i, hi⟩ : ∃ i, i = (Rec.cut ⟨l, ep, k, ve, dd, i0, va0⟩).id := ⟨_, rfl⟩
  obtain ⟨va, hva⟩ : ∃ i, i = (Rec.cut ⟨l, ep, k, ve, dd, i0, va0⟩).va := ⟨_, rfl⟩
  have cv2 : ∀ W, Calls Try.prog 19 #[.agg #[.int .u64 (l : Int), .int .u32 (ep : Int), .int .i64 k, .int .u64 (ve : Int), .int .u64 (dd : Int), .string i0, .string va0]] W fun e w' => e = .returned (.agg #[.int .u64 (l : Int), .int .u32 (ep : Int), .int .i64 k, .int .u64 (ve : Int), .int .u64 (dd : Int), .string i, .string va]) ∧ Below W.heap.size W w' := fun W => by
    have := cv W
    rw [← hi, ← hva] at this
    exact this
  rw [← hi] at ci
  rw [← hva] at cw
  have CV := Lib.hid cv2
  have HF := Lib.hid hf
  have HT := Lib.hid ht
  obtain ⟨w0, hw0⟩ : ∃ W, W = (((w.alloc (.cells #[.int .u64 (l : Int), .int .u32 (ep : Int), .int .i64 k, .int .u64 (ve : Int), .int .u64 (dd : Int), .string i0, .string va0] (34 : Nat))).alloc (.cells #[.int .i64 f1, .int .i64 f2] (36 : Nat))).alloc (.cells #[.int .i64 t1, .int .i64 t2] (36 : Nat))) := ⟨_, rfl⟩
  have s1 := alloc_sizeR w (.cells #[.int .u64 (l : Int), .int .u32 (ep : Int), .int .i64 k, .int .u64 (ve : Int), .int .u64 (dd : Int), .string i0, .string va0] (34 : Nat))
  have s2 := alloc_sizeR (w.alloc (.cells #[.int .u64 (l : Int), .int .u32 (ep : Int), .int .i64 k, .int .u64 (ve : Int), .int .u64 (dd : Int), .string i0, .string va0] (34 : Nat))) (.cells #[.int .i64 f1, .int .i64 f2] (36 : Nat))
  have b0 : Below w.heap.size w w0 := by rw [hw0]; exact (((Below.refl _ _).alloc (Nat.le_refl _) _).alloc (by rw [s1]; omega) _).alloc (by rw [s2, s1]; omega) _
  have x0 : Bx w0 w.heap.size l ep k ve dd i0 va0 f1 f2 t1 t2 := by
    rw [hw0]
    refine ⟨(heap_alloc_old _ _ (by omega)).trans ((heap_alloc_old _ _ (by omega)).trans (heap_alloc_new _ _)), (heap_alloc_old _ _ (by omega)).trans ?_, ?_⟩
    · have := heap_alloc_new (w.alloc (.cells #[.int .u64 (l : Int), .int .u32 (ep : Int), .int .i64 k, .int .u64 (ve : Int), .int .u64 (dd : Int), .string i0, .string va0] (34 : Nat))) (.cells #[.int .i64 f1, .int .i64 f2] (36 : Nat))
      rw [s1] at this; exact this
    · have := heap_alloc_new ((w.alloc (.cells #[.int .u64 (l : Int), .int .u32 (ep : Int), .int .i64 k, .int .u64 (ve : Int), .int .u64 (dd : Int), .string i0, .string va0] (34 : Nat))).alloc (.cells #[.int .i64 f1, .int .i64 f2] (36 : Nat))) (.cells #[.int .i64 t1, .int .i64 t2] (36 : Nat))
      rw [s2, s1] at this; exact this
  have z0 : w.heap.size + 2 < w0.heap.size := lt_of_rowR x0.rt
  have NEW := Lib.hid (INew_val w0)
  have X0 := Lib.hid x0
  have B0 := Lib.hid b0
  have Z0 := Lib.hid z0
  have HW0 := Lib.hid hw0
  clear cv cv2 hi hva hf ht s1 s2 b0 x0 z0 hw0
  go_enter Try.func6, Try.ntmps6
  go_wp2_with fail
  rw [← HW0.out]
  refine NEW.out.mono ?_; rintro e w1 ⟨⟨X, bn, bp, rfl, hix, hX, hbn, hbp⟩, hb⟩
  have IX1 := Lib.hid hix
  have LB : Hid (w.heap.size + 2 < X ∧ w.heap.size + 2 < bn ∧ w.heap.size + 2 < bp) := Lib.hid (by have := Z0.out; omega)
  have X1 := Lib.hid (X0.out.below hb)
  have BB1 := Lib.hid (stepR B0.out hb)
  clear hix hX hbn hbp hb NEW
  obtain ⟨a0, a1, a2, a3, a4, a5, a6, p0, p1, q0, q1⟩ := X1.out.cells
  go_wp2_with fail
  refine (CV.out _).mono ?_; rintro e w2 ⟨rfl, hb⟩
  have x2 := X1.out.below hb
  have ix2 := IX1.out.below hb
  have hlt := lt_of_rowR x2.ra
  obtain ⟨w3, hw3⟩ : ∃ W, w2.setRow w.heap.size #[.int .u64 (l : Int), .int .u32 (ep : Int), .int .i64 k, .int .u64 (ve : Int), .int .u64 (dd : Int), .string i, .string va] = W := ⟨_, rfl⟩
  have ob : ∀ j, j ≠ w.heap.size → w3.heap[j]? = w2.heap[j]? := fun j hj => by rw [← hw3]; exact setRow_other _ _ _ _ hj
  have IX3 : Hid (Ix w3 X bn bp 0 0 (fun _ => none) (fun _ => none)) := Lib.hid (ix2.keep (ob _ (by have := LB.out; omega)) (ob _ (by have := LB.out; omega)) (ob _ (by have := LB.out; omega)))
  have X3 : Hid (Bx w3 w.heap.size l ep k ve dd i va f1 f2 t1 t2) := Lib.hid ⟨by rw [← hw3]; exact setRow_heap w2 _ _ _ _ _ x2.ra, (ob _ (by omega)).trans x2.rf, (ob _ (by omega)).trans x2.rt⟩
  have BB3 : Hid (Below w.heap.size w w3) := Lib.hid (by
    have h := stepR BB1.out hb
    refine ⟨?_, ?_, ?_, ?_, fun j hj => (ob j (by omega)).trans (h.block j hj)⟩
    · rw [← hw3]; exact h.os
    · rw [← hw3]; exact h.tape
    · rw [← hw3]; exact h.output
    · rw [← hw3, setRow_size]; exact h.size)
  have RA2 := Lib.hid x2.ra
  have HW3 := Lib.hid hw3
  have ONE : Hid (((#[.int .u64 (l : Int), .int .u32 (ep : Int), .int .i64 k, .int .u64 (ve : Int), .int .u64 (dd : Int), .string i, .string va] : Array Value).all (·.oneCell')) = true) := Lib.hid (by simp [Value.oneCell'])
  clear a0 a1 a2 a3 a4 a5 a6 p0 p1 q0 q1
  clear hb x2 ix2 hlt ob hw3
  obtain ⟨a0, a1, a2, a3, a4, a5, a6, p0, p1, q0, q1⟩ := X3.out.cells
  have HCI := Lib.hid ci
  have HCW := Lib.hid cw
  by_cases hgood : k = 1 ∧ ¬ f1 = t1
  rotate_left
  · by_cases hk : k = 1
    · have hft : f1 = t1 := Classical.byContradiction fun h => hgood ⟨hk, h⟩
      subst hk hft
      clear hgood
      go_wp2_with (refine wpList_store_row rfl 34 _ _ rfl w.heap.size #[.int .u64 (l : Int), .int .u32 (ep : Int), .int .i64 1, .int .u64 (ve : Int), .int .u64 (dd : Int), .string i, .string va] rfl rfl _ _ RA2.out (by kernel_rfl) rfl ONE.out ?_; rw [HW3.out])
      refine (fixed_val _).mono ?_; rintro e wz ⟨rfl, hb⟩
      go_wp2_with fail
      go_ret
      exact ⟨rfl, stepR BB3.out hb⟩
    · have g1 : (k != 1) = true := bne_iff_ne.2 hk
      have g2 : (k = 1) = False := eq_false hk
      clear hgood hk
      go_wp2_with (refine wpList_store_row rfl 34 _ _ rfl w.heap.size #[.int .u64 (l : Int), .int .u32 (ep : Int), .int .i64 k, .int .u64 (ve : Int), .int .u64 (dd : Int), .string i, .string va] rfl rfl _ _ RA2.out (by kernel_rfl) rfl ONE.out ?_; rw [HW3.out])
      refine (fixed_val _).mono ?_; rintro e wz ⟨rfl, hb⟩
      go_wp2_with fail
      go_ret
      exact ⟨rfl, stepR BB3.out hb⟩
  · obtain ⟨hk, hft⟩ := hgood
    have HFT := Lib.hid hft
    have g1 : (f1 == t1) = false := beq_eq_false_iff_ne.2 hft
    have g2 : (f1 = t1) = False := eq_false hft
    subst hk
    clear hft
    go_wp2_with (refine wpList_store_row rfl 34 _ _ rfl w.heap.size #[.int .u64 (l : Int), .int .u32 (ep : Int), .int .i64 1, .int .u64 (ve : Int), .int .u64 (dd : Int), .string i, .string va] rfl rfl _ _ RA2.out (by kernel_rfl) rfl ONE.out ?_; rw [HW3.out])
    have LBN := Lib.hid (show w.heap.size ≤ bn ∧ w.heap.size ≤ bp by have := LB.out; omega)
    have HK := Lib.hid (rfl : (⟨l, ep, 1, ve, dd, i, va⟩ : Rec).kind = 1)
    have F1 := Lib.hid (mv_a1 (r := (⟨l, ep, 1, ve, dd, i, va⟩ : Rec)) (f1, f2) rfl)
    have F2 := Lib.hid (mv_a2 (r := (⟨l, ep, 1, ve, dd, i, va⟩ : Rec)) (f := (f1, f2)) (t := (t1, t2)) rfl HFT.out)
    have a := IAdd_val w3 X bn bp 0 0 (fun _ => none) (fun _ => none) (⟨l, ep, 1, ve, dd, i, va⟩ : Rec) (f1, f2) IX3.out (by decide) (by decide) HF.out (by show i.size ≤ _; have := HCI.out; omega) (by show va.size ≤ _; have := HCW.out; omega)
    rw [F1.out.1, F1.out.2.1, F1.out.2.2] at a
    refine a.mono ?_; rintro e w4 ⟨rfl, hix, hmq⟩
    have IX4 : Hid (Ix w4 X bn bp 1 1 (mvN (⟨l, ep, 1, ve, dd, i, va⟩ : Rec) (f1, f2)) (mvQ (⟨l, ep, 1, ve, dd, i, va⟩ : Rec) (f1, f2))) := Lib.hid hix
    have BB4 := Lib.hid (BB3.out.trans (hmq.below LBN.out.1 LBN.out.2 BB3.out.size))
    have X4 := Lib.hid (X3.out.mq hmq LB.out.2.1 LB.out.2.2)
    clear hmq
    clear a0 a1 a2 a3 a4 a5 a6 p0 p1 q0 q1
    clear a hix
    obtain ⟨a0, a1, a2, a3, a4, a5, a6, p0, p1, q0, q1⟩ := X4.out.cells
    have a := IAdd_val w4 X bn bp 1 1 _ _ (⟨l, ep, 1, ve, dd, i, va⟩ : Rec) (t1, t2) IX4.out (by decide) (by decide) HT.out (by show i.size ≤ _; have := HCI.out; omega) (by show va.size ≤ _; have := HCW.out; omega)
    rw [F2.out.1, F2.out.2.1, F2.out.2.2] at a
    have AA := Lib.hid a
    clear a
    go_wp2_with fail
    refine AA.out.mono ?_; rintro e w5 ⟨rfl, hix, hmq⟩
    have IX5 : Hid (Ix w5 X bn bp 2 2 (mvN (⟨l, ep, 1, ve, dd, i, va⟩ : Rec) (t1, t2)) (mvQ2 (⟨l, ep, 1, ve, dd, i, va⟩ : Rec) (f1, f2) (t1, t2))) := Lib.hid hix
    have BB5 := Lib.hid (BB4.out.trans (hmq.below LBN.out.1 LBN.out.2 BB4.out.size))
    have X5 := Lib.hid (X4.out.mq hmq LB.out.2.1 LB.out.2.2)
    clear hmq
    clear a0 a1 a2 a3 a4 a5 a6 p0 p1 q0 q1
    clear hix AA
    have NT := Lib.hid (show mvN (⟨l, ep, 1, ve, dd, i, va⟩ : Rec) (t1, t2) i = some ((⟨l, ep, 1, ve, dd, i, va⟩ : Rec).ent (t1, t2)) from updM_same _ _ _)
    obtain ⟨zz, hzz⟩ : ∃ zz : Int, zz = 31 + (i.size : Int) + (va.size : Int) := ⟨_, rfl⟩
    have HZZ := Lib.hid hzz
    clear hzz
    obtain ⟨a0, a1, a2, a3, a4, a5, a6, p0, p1, q0, q1⟩ := X5.out.cells
    have a := INewest_val w5 X bn bp 2 2 (mvN (⟨l, ep, 1, ve, dd, i, va⟩ : Rec) (t1, t2)) _ i IX5.out (by have := HCI.out; omega)
    rw [NT.out, show (some ((⟨l, ep, 1, ve, dd, i, va⟩ : Rec).ent (t1, t2))).getD Ent.zero = (⟨l, ep, 1, ve, dd, i, va⟩ : Rec).ent (t1, t2) from rfl, show (some ((⟨l, ep, 1, ve, dd, i, va⟩ : Rec).ent (t1, t2))).isSome = true from rfl, show ((⟨l, ep, 1, ve, dd, i, va⟩ : Rec).ent (t1, t2)).row = (#[.int .u64 (ve : Int), .int .u64 (dd : Int), .bool true, .int .i64 (31 + (i.size : Int) + (va.size : Int)), .int .i64 t1, .int .i64 t2] : Array Value) from rfl, ← HZZ.out] at a
    have AA : Hid (Calls Try.prog 16 #[.pointer (some ⟨X, 0, none⟩), .string i] w5 fun e w' => e = .returned (.tuple #[.agg #[.int .u64 (ve : Int), .int .u64 (dd : Int), .bool true, .int .i64 zz, .int .i64 t1, .int .i64 t2], .bool true]) ∧ Below w5.heap.size w5 w') := Lib.hid a
    clear a
    go_wp2_with fail
    refine AA.out.mono ?_; rintro e w6 ⟨rfl, hb1⟩
    obtain ⟨w7, hw⟩ : ∃ W, W = w6.alloc (.cells #[.int .u64 (ve : Int), .int .u64 (dd : Int), .bool true, .int .i64 zz, .int .i64 t1, .int .i64 t2] (49 : Nat)) := ⟨_, rfl⟩
    have hb : Below w5.heap.size w5 w7 := stepR hb1 (by rw [hw]; exact (Below.refl _ _).alloc (Nat.le_refl _) _)
    have hmq : Mq bn bp w5 w7 := Mq.of_below hb
    have IX7 := Lib.hid (IX5.out.below hb)
    have BB7 := Lib.hid (stepR BB5.out hb)
    have X7 := Lib.hid (X5.out.mq hmq LB.out.2.1 LB.out.2.2)
    clear hmq
    have ROW7 : Hid (w7.heap[w6.heap.size]? = some (.cells #[.int .u64 (ve : Int), .int .u64 (dd : Int), .bool true, .int .i64 zz, .int .i64 t1, .int .i64 t2] (49 : Nat) (0, 0))) := Lib.hid (by rw [hw]; exact heap_alloc_new _ _)
    have NROW7 : Hid (w6.heap.size ≠ bn ∧ w6.heap.size ≠ bp) := Lib.hid (by have h1 := (IX5.out.below hb1).lts; omega)
    have HW7 := Lib.hid hw
    clear a0 a1 a2 a3 a4 a5 a6 p0 p1 q0 q1
    clear hb hb1 hw AA
    have AA := Lib.hid (IIn_val w7 X bn bp 2 2 (mvN (⟨l, ep, 1, ve, dd, i, va⟩ : Rec) (t1, t2)) _ f1 IX7.out (by decide) (fun x s h => by have h2 := (mv_en (⟨l, ep, 1, ve, dd, i, va⟩ : Rec) (t1, t2)).all (P := fun p => 0 ≤ p.2.sz ∧ p.2.sz ≤ 4000000) (fun p hp => by rw [List.mem_singleton.1 hp]; show 0 ≤ 31 + (i.size : Int) + (va.size : Int) ∧ 31 + (i.size : Int) + (va.size : Int) ≤ 4000000; have := HCI.out; have := HCW.out; omega) x s h; exact h2))
    have hcl := X7.out.cells
    rw [HW7.out] at hcl
    obtain ⟨a0, a1, a2, a3, a4, a5, a6, p0, p1, q0, q1⟩ := hcl
    go_wp2_with fail
    rw [← HW7.out]
    refine AA.out.mono ?_; rintro e w8 ⟨⟨c1, c2, c3, rfl, hs⟩, hb⟩
    obtain ⟨_, h2, _⟩ := hs _ (mv_en (⟨l, ep, 1, ve, dd, i, va⟩ : Rec) (t1, t2))
    obtain rfl : c2 = 0 := h2.trans (by show (inB f1 _ : Int) + 0 = 0; unfold inB; rw [if_neg (fun h => HFT.out h.1.symm)]; rfl)
    clear h2 hs
    have hmq : Mq bn bp w7 w8 := Mq.of_below hb
    have IX8 := Lib.hid (IX7.out.below hb)
    have BB8 := Lib.hid (stepR BB7.out hb)
    have X8 := Lib.hid (X7.out.mq hmq LB.out.2.1 LB.out.2.2)
    have ROW7 := Lib.hid (hmq.row ROW7.out NROW7.out.1 NROW7.out.2)
    clear hmq
    clear a0 a1 a2 a3 a4 a5 a6 p0 p1 q0 q1
    clear hb AA
    have hgn := IGone_val w8 X bn bp 2 2 (mvN (⟨l, ep, 1, ve, dd, i, va⟩ : Rec) (t1, t2)) (mvQ2 (⟨l, ep, 1, ve, dd, i, va⟩ : Rec) (f1, f2) (t1, t2)) f1 IX8.out (by decide) (fun p s h => (mv_q2 (⟨l, ep, 1, ve, dd, i, va⟩ : Rec) (f := (f1, f2)) (t := (t1, t2)) HFT.out).all (P := fun p => p.2.size ≤ 140737488351232) (fun p hp => by simp only [List.mem_cons, List.not_mem_nil, or_false] at hp; rcases hp with rfl | rfl <;> (show i.size ≤ _; have := HCI.out; omega)) p s h)
    have AA := Lib.hid hgn
    clear hgn
    obtain ⟨a0, a1, a2, a3, a4, a5, a6, p0, p1, q0, q1⟩ := X8.out.cells
    go_wp2_with fail
    refine AA.out.mono ?_; rintro e w9 ⟨⟨c, rfl, hs⟩, hix, hmq⟩
    obtain rfl : c = 1 := (hs _ (mv_q2 (⟨l, ep, 1, ve, dd, i, va⟩ : Rec) (f := (f1, f2)) (t := (t1, t2)) HFT.out)).trans (by
      show (gonG f1 ((t1, t2), i) : Int) + (gonG f1 ((f1, f2), i) + 0) = 1
      unfold gonG
      rw [if_neg (fun h => HFT.out h.symm), if_pos rfl]; rfl)
    rw [show goneN1 (mvN (⟨l, ep, 1, ve, dd, i, va⟩ : Rec) (t1, t2)) (mvQ2 (⟨l, ep, 1, ve, dd, i, va⟩ : Rec) (f1, f2) (t1, t2)) f1 = mvN (⟨l, ep, 1, ve, dd, i, va⟩ : Rec) (t1, t2) from mv_g1 (⟨l, ep, 1, ve, dd, i, va⟩ : Rec) (f := (f1, f2)) HFT.out, show goneQ1 (mvQ2 (⟨l, ep, 1, ve, dd, i, va⟩ : Rec) (f1, f2) (t1, t2)) f1 = mvQ (⟨l, ep, 1, ve, dd, i, va⟩ : Rec) (t1, t2) from mv_gq (⟨l, ep, 1, ve, dd, i, va⟩ : Rec) (f := (f1, f2)) HFT.out] at hix
    have IX9 := Lib.hid hix
    have BB9 := Lib.hid (BB8.out.trans (hmq.below LBN.out.1 LBN.out.2 BB8.out.size))
    have X9 := Lib.hid (X8.out.mq hmq LB.out.2.1 LB.out.2.2)
    have ROW7 := Lib.hid (hmq.row ROW7.out NROW7.out.1 NROW7.out.2)
    clear hmq
    clear a0 a1 a2 a3 a4 a5 a6 p0 p1 q0 q1
    clear hs hix AA
    obtain ⟨a0, a1, a2, a3, a4, a5, a6, p0, p1, q0, q1⟩ := X9.out.cells
    have a := INewest_val w9 X bn bp 2 2 (mvN (⟨l, ep, 1, ve, dd, i, va⟩ : Rec) (t1, t2)) _ i IX9.out (by have := HCI.out; omega)
    rw [NT.out, show (some ((⟨l, ep, 1, ve, dd, i, va⟩ : Rec).ent (t1, t2))).getD Ent.zero = (⟨l, ep, 1, ve, dd, i, va⟩ : Rec).ent (t1, t2) from rfl, show (some ((⟨l, ep, 1, ve, dd, i, va⟩ : Rec).ent (t1, t2))).isSome = true from rfl, show ((⟨l, ep, 1, ve, dd, i, va⟩ : Rec).ent (t1, t2)).row = (#[.int .u64 (ve : Int), .int .u64 (dd : Int), .bool true, .int .i64 (31 + (i.size : Int) + (va.size : Int)), .int .i64 t1, .int .i64 t2] : Array Value) from rfl, ← HZZ.out] at a
    have AA : Hid (Calls Try.prog 16 #[.pointer (some ⟨X, 0, none⟩), .string i] w9 fun e w' => e = .returned (.tuple #[.agg #[.int .u64 (ve : Int), .int .u64 (dd : Int), .bool true, .int .i64 zz, .int .i64 t1, .int .i64 t2], .bool true]) ∧ Below w9.heap.size w9 w') := Lib.hid a
    clear a
    go_wp2_with fail
    refine AA.out.mono ?_; rintro e w10 ⟨rfl, hb1⟩
    obtain ⟨w11, hw⟩ : ∃ W, W = w10.alloc (.cells #[.int .u64 (ve : Int), .int .u64 (dd : Int), .bool true, .int .i64 zz, .int .i64 t1, .int .i64 t2] (49 : Nat)) := ⟨_, rfl⟩
    have hb : Below w9.heap.size w9 w11 := stepR hb1 (by rw [hw]; exact (Below.refl _ _).alloc (Nat.le_refl _) _)
    have hmq : Mq bn bp w9 w11 := Mq.of_below hb
    have IX11 := Lib.hid (IX9.out.below hb)
    have BB11 := Lib.hid (stepR BB9.out hb)
    have X11 := Lib.hid (X9.out.mq hmq LB.out.2.1 LB.out.2.2)
    have ROW7 := Lib.hid (hmq.row ROW7.out NROW7.out.1 NROW7.out.2)
    clear hmq
    have ROW11 : Hid (w11.heap[w10.heap.size]? = some (.cells #[.int .u64 (ve : Int), .int .u64 (dd : Int), .bool true, .int .i64 zz, .int .i64 t1, .int .i64 t2] (49 : Nat) (0, 0))) := Lib.hid (by rw [hw]; exact heap_alloc_new _ _)
    have NROW11 : Hid (w10.heap.size ≠ bn ∧ w10.heap.size ≠ bp) := Lib.hid (by have h1 := (IX9.out.below hb1).lts; omega)
    have HW11 := Lib.hid hw
    clear a0 a1 a2 a3 a4 a5 a6 p0 p1 q0 q1
    clear hb hb1 hw AA
    have AA := Lib.hid (ILives_val w11 X bn bp 2 2 (mvN (⟨l, ep, 1, ve, dd, i, va⟩ : Rec) (t1, t2)) _ IX11.out (by decide) (fun x s h => (mv_en (⟨l, ep, 1, ve, dd, i, va⟩ : Rec) (t1, t2)).all (P := fun p => p.1.size ≤ 140737488351232) (fun p hp => by rw [List.mem_singleton.1 hp]; show i.size ≤ _; have := HCI.out; omega) x s h))
    have hcl := X11.out.cells
    rw [HW11.out] at hcl
    obtain ⟨a0, a1, a2, a3, a4, a5, a6, p0, p1, q0, q1⟩ := hcl
    go_wp2_with fail
    rw [← HW11.out]
    refine AA.out.mono ?_; rintro e w12 ⟨⟨ks, rfl, hks, _⟩, hb⟩
    rw [mv_keys (r := (⟨l, ep, 1, ve, dd, i, va⟩ : Rec)) (t := (t1, t2)) rfl hks]
    clear hks
    have hmq : Mq bn bp w11 w12 := Mq.of_below hb
    have IX12 := Lib.hid (IX11.out.below hb)
    have BB12 := Lib.hid (stepR BB11.out hb)
    have X12 := Lib.hid (X11.out.mq hmq LB.out.2.1 LB.out.2.2)
    have ROW7 := Lib.hid (hmq.row ROW7.out NROW7.out.1 NROW7.out.2)
    have ROW11 := Lib.hid (hmq.row ROW11.out NROW11.out.1 NROW11.out.2)
    clear hmq
    clear a0 a1 a2 a3 a4 a5 a6 p0 p1 q0 q1
    clear hb AA
    have hgn := IGone_val w12 X bn bp 2 2 (mvN (⟨l, ep, 1, ve, dd, i, va⟩ : Rec) (t1, t2)) (mvQ (⟨l, ep, 1, ve, dd, i, va⟩ : Rec) (t1, t2)) t1 IX12.out (by decide) (fun p s h => (mv_q1 (⟨l, ep, 1, ve, dd, i, va⟩ : Rec) (t1, t2)).all (P := fun p => p.2.size ≤ 140737488351232) (fun p hp => by simp only [List.mem_cons, List.not_mem_nil, or_false] at hp; rw [hp]; show i.size ≤ _; have := HCI.out; omega) p s h)
    have AA := Lib.hid hgn
    clear hgn
    obtain ⟨a0, a1, a2, a3, a4, a5, a6, p0, p1, q0, q1⟩ := X12.out.cells
    go_wp2_with fail
    refine AA.out.mono ?_; rintro e w13 ⟨⟨c, rfl, hs⟩, hix, hmq⟩
    obtain rfl : c = 1 := (hs _ (mv_q1 (⟨l, ep, 1, ve, dd, i, va⟩ : Rec) (t1, t2))).trans (by
      show (gonG t1 ((t1, t2), i) : Int) + 0 = 1
      unfold gonG
      rw [if_pos rfl]; rfl)
    rw [show goneN1 (mvN (⟨l, ep, 1, ve, dd, i, va⟩ : Rec) (t1, t2)) (mvQ (⟨l, ep, 1, ve, dd, i, va⟩ : Rec) (t1, t2)) t1 = (fun _ => none) from mv_g2 (⟨l, ep, 1, ve, dd, i, va⟩ : Rec) (t1, t2), show goneQ1 (mvQ (⟨l, ep, 1, ve, dd, i, va⟩ : Rec) (t1, t2)) t1 = (fun _ => none) from mv_gq2 (⟨l, ep, 1, ve, dd, i, va⟩ : Rec) (t1, t2)] at hix
    have IX13 := Lib.hid hix
    have BB13 := Lib.hid (BB12.out.trans (hmq.below LBN.out.1 LBN.out.2 BB12.out.size))
    have X13 := Lib.hid (X12.out.mq hmq LB.out.2.1 LB.out.2.2)
    have ROW7 := Lib.hid (hmq.row ROW7.out NROW7.out.1 NROW7.out.2)
    have ROW11 := Lib.hid (hmq.row ROW11.out NROW11.out.1 NROW11.out.2)
    clear hmq
    clear a0 a1 a2 a3 a4 a5 a6 p0 p1 q0 q1
    clear hs hix AA
    obtain ⟨a0, a1, a2, a3, a4, a5, a6, p0, p1, q0, q1⟩ := X13.out.cells
    have a := INewest_val w13 X bn bp 2 2 (fun _ => none) _ i IX13.out (by have := HCI.out; omega)
    have AA : Hid (Calls Try.prog 16 #[.pointer (some ⟨X, 0, none⟩), .string i] w13 fun e w' => e = .returned (.tuple #[.agg #[.int .u64 0, .int .u64 0, .bool false, .int .i64 0, .int .i64 0, .int .i64 0], .bool false]) ∧ Below w13.heap.size w13 w') := Lib.hid a
    clear a
    go_wp2_with fail
    refine AA.out.mono ?_; rintro e w14 ⟨rfl, hb1⟩
    obtain ⟨w15, hw⟩ : ∃ W, W = w14.alloc (.cells #[.int .u64 0, .int .u64 0, .bool false, .int .i64 0, .int .i64 0, .int .i64 0] (49 : Nat)) := ⟨_, rfl⟩
    have hb : Below w13.heap.size w13 w15 := stepR hb1 (by rw [hw]; exact (Below.refl _ _).alloc (Nat.le_refl _) _)
    have hmq : Mq bn bp w13 w15 := Mq.of_below hb
    have IX15 := Lib.hid (IX13.out.below hb)
    have BB15 := Lib.hid (stepR BB13.out hb)
    have X15 := Lib.hid (X13.out.mq hmq LB.out.2.1 LB.out.2.2)
    have ROW7 := Lib.hid (hmq.row ROW7.out NROW7.out.1 NROW7.out.2)
    have ROW11 := Lib.hid (hmq.row ROW11.out NROW11.out.1 NROW11.out.2)
    clear hmq
    have ROW15 : Hid (w15.heap[w14.heap.size]? = some (.cells #[.int .u64 0, .int .u64 0, .bool false, .int .i64 0, .int .i64 0, .int .i64 0] (49 : Nat) (0, 0))) := Lib.hid (by rw [hw]; exact heap_alloc_new _ _)
    have NROW15 : Hid (w14.heap.size ≠ bn ∧ w14.heap.size ≠ bp) := Lib.hid (by have h1 := (IX13.out.below hb1).lts; omega)
    have HW15 := Lib.hid hw
    clear a0 a1 a2 a3 a4 a5 a6 p0 p1 q0 q1
    clear hb hb1 hw AA
    have g7 := ROW7.out
    have g11 := ROW11.out
    have hcl := X15.out.cells
    rw [HW15.out] at g7 g11 hcl
    obtain ⟨a0, a1, a2, a3, a4, a5, a6, p0, p1, q0, q1⟩ := hcl
    have g0 : (w14.alloc (.cells #[.int .u64 0, .int .u64 0, .bool false, .int .i64 0, .int .i64 0, .int .i64 0] (49 : Nat))).cell? ⟨w6.heap.size, 0, none⟩ = some (.int .u64 (ve : Int)) := (cell_of_row _ _ 0 _ _ _ g7).trans rfl
    have g1 : (w14.alloc (.cells #[.int .u64 0, .int .u64 0, .bool false, .int .i64 0, .int .i64 0, .int .i64 0] (49 : Nat))).cell? ⟨w6.heap.size, 1, none⟩ = some (.int .u64 (dd : Int)) := (cell_of_row _ _ 1 _ _ _ g7).trans rfl
    have g2 : (w14.alloc (.cells #[.int .u64 0, .int .u64 0, .bool false, .int .i64 0, .int .i64 0, .int .i64 0] (49 : Nat))).cell? ⟨w6.heap.size, 2, none⟩ = some (.bool true) := (cell_of_row _ _ 2 _ _ _ g7).trans rfl
    have g3 : (w14.alloc (.cells #[.int .u64 0, .int .u64 0, .bool false, .int .i64 0, .int .i64 0, .int .i64 0] (49 : Nat))).cell? ⟨w6.heap.size, 3, none⟩ = some (.int .i64 zz) := (cell_of_row _ _ 3 _ _ _ g7).trans rfl
    have g4 : (w14.alloc (.cells #[.int .u64 0, .int .u64 0, .bool false, .int .i64 0, .int .i64 0, .int .i64 0] (49 : Nat))).cell? ⟨w6.heap.size, 4, none⟩ = some (.int .i64 t1) := (cell_of_row _ _ 4 _ _ _ g7).trans rfl
    have g5 : (w14.alloc (.cells #[.int .u64 0, .int .u64 0, .bool false, .int .i64 0, .int .i64 0, .int .i64 0] (49 : Nat))).cell? ⟨w6.heap.size, 5, none⟩ = some (.int .i64 t2) := (cell_of_row _ _ 5 _ _ _ g7).trans rfl
    have h0 : (w14.alloc (.cells #[.int .u64 0, .int .u64 0, .bool false, .int .i64 0, .int .i64 0, .int .i64 0] (49 : Nat))).cell? ⟨w10.heap.size, 0, none⟩ = some (.int .u64 (ve : Int)) := (cell_of_row _ _ 0 _ _ _ g11).trans rfl
    have h1 : (w14.alloc (.cells #[.int .u64 0, .int .u64 0, .bool false, .int .i64 0, .int .i64 0, .int .i64 0] (49 : Nat))).cell? ⟨w10.heap.size, 1, none⟩ = some (.int .u64 (dd : Int)) := (cell_of_row _ _ 1 _ _ _ g11).trans rfl
    have h2 : (w14.alloc (.cells #[.int .u64 0, .int .u64 0, .bool false, .int .i64 0, .int .i64 0, .int .i64 0] (49 : Nat))).cell? ⟨w10.heap.size, 2, none⟩ = some (.bool true) := (cell_of_row _ _ 2 _ _ _ g11).trans rfl
    have h3 : (w14.alloc (.cells #[.int .u64 0, .int .u64 0, .bool false, .int .i64 0, .int .i64 0, .int .i64 0] (49 : Nat))).cell? ⟨w10.heap.size, 3, none⟩ = some (.int .i64 zz) := (cell_of_row _ _ 3 _ _ _ g11).trans rfl
    have h4 : (w14.alloc (.cells #[.int .u64 0, .int .u64 0, .bool false, .int .i64 0, .int .i64 0, .int .i64 0] (49 : Nat))).cell? ⟨w10.heap.size, 4, none⟩ = some (.int .i64 t1) := (cell_of_row _ _ 4 _ _ _ g11).trans rfl
    have h5 : (w14.alloc (.cells #[.int .u64 0, .int .u64 0, .bool false, .int .i64 0, .int .i64 0, .int .i64 0] (49 : Nat))).cell? ⟨w10.heap.size, 5, none⟩ = some (.int .i64 t2) := (cell_of_row _ _ 5 _ _ _ g11).trans rfl
    clear g7 g11
    go_wp2_with fail
    rw [← HW15.out]
    have AA := Lib.hid (ILives_val w15 X bn bp 2 2 (fun _ => none) (fun _ => none) IX15.out (by decide) (fun x s h => by cases h))
    clear g0 g1 g2 g3 g4 g5 h0 h1 h2 h3 h4 h5
    refine AA.out.mono ?_; rintro e w16 ⟨⟨ks, rfl, hks, _⟩, hb⟩
    rw [mv_keys0 hks]
    have BB16 := Lib.hid (stepR BB15.out hb)
    clear a0 a1 a2 a3 a4 a5 a6 p0 p1 q0 q1
    clear hks hb AA
    go_wp2_with fail
    refine (fixed_val _).mono ?_; rintro e w17 ⟨rfl, hb⟩
    go_wp2_with fail
    go_ret
    exact ⟨rfl, stepR BB16.out hb⟩
theorem IndexMoves_walk (v0 v1 v2 : Value) (w : World) (o0 : Row.Opn Try.prog w 34 v0) (o1 : Row.Opn Try.prog w 36 v1) (o2 : Row.Opn Try.prog w 36 v2) :
    Calls Try.prog 6 #[v0, v1, v2] w fun e w' => e = .returned (.bool true) ∧ Below w.heap.size w w' := by
  obtain ⟨r, rfl, _⟩ := open_rec o0
  obtain ⟨f, rfl, hf⟩ := open_loc o1
  obtain ⟨t, rfl, ht⟩ := open_loc o2
  exact moves_main r f t w hf ht
end Go.Proofs.Ythpompgcnemanaa.L
