/- CkptTorn: whatever the checkpoints, and wherever the third one is torn, the law answers true. No condition. -/
import Derived.Test.YtieijelbflkpeaaGCkY
import Derived.Test.YtieijelbflkpeaaGFast
import Derived.Deep.RegionHeld
namespace Go.Proofs.Ytieijelbflkpeaa.L
open Go.RowKit Go.Proofs.Ytieijelbflkpeaa.G Go.Proofs.Ytieijelbflkpeaa.Loose Go.Proofs.Ytieijelbflkpeaa.CrcPlain Go.Proofs.Ytieijelbflkpeaa.WordPlain
set_option linter.unusedVariables false
set_option linter.unusedSimpArgs false

theorem three_new (w : World) (o1 o2 o3 : Obj) : (((w.alloc o1).alloc o2).alloc o3).heap[w.heap.size]? = some o1 ∧ (((w.alloc o1).alloc o2).alloc o3).heap[w.heap.size + 1]? = some o2 ∧ (((w.alloc o1).alloc o2).alloc o3).heap[w.heap.size + 2]? = some o3 ∧ Below w.heap.size w (((w.alloc o1).alloc o2).alloc o3) := by
  obtain ⟨p1, p2, pb, ps⟩ := two_new w o1 o2
  have q := heap_alloc_new ((w.alloc o1).alloc o2) o3
  rw [ps] at q
  refine ⟨?_, ?_, q, pb.alloc pb.size _⟩
  · rw [heap_alloc_old _ _ (by rw [ps]; omega)]; exact p1
  · rw [heap_alloc_old _ _ (by rw [ps]; omega)]; exact p2

theorem open_third {w : World} {v : Value} (o : Row.Opn Try.prog w 49 v) : ∃ (c : Ck) (vo vl : Value) (p : Nat), v = .agg #[.int .u64 c.gen, .int .u32 c.ep, .int .u64 c.lsn, .int .u64 c.ver, vo, vl, .int .u8 p] ∧ c.Kind ∧ Sl w vo c.order ∧ Sl w vl c.lens ∧ p < 256 := by
  obtain ⟨⟨n, ho⟩, b, hk⟩ := o
  have hu := Try.underlying49
  simp only [Value.okWide] at hk
  rw [hu] at hk
  obtain ⟨cs, rfl, hsz, hrow⟩ := hk
  obtain ⟨hl, hf⟩ := Row.opn_struct ho hu
  have h7 : cs.toList.length = 7 := hl.trans (by kernel_rfl)
  obtain ⟨l, hcl⟩ : ∃ l, cs = l.toArray := ⟨cs.toList, by simp⟩
  subst hcl
  simp only [Value.cells, List.toList_toArray] at hf h7
  match l, h7 with
  | [x0, x1, x2, x3, x4, x5, x6], _ =>
    have k6 : Try.prog.cellsOf 26 = 6 := by kernel_rfl
    have k1 : Try.prog.cellsOf 5 = 1 := by kernel_rfl
    have f0 : Row.opn Try.prog w (n - 1) 26 [x0, x1, x2, x3, x4, x5] := by
      have h : Row.opn Try.prog w (n - 1) 26 (([x0, x1, x2, x3, x4, x5, x6].drop 0).take (Try.prog.cellsOf 26)) := hf 0 _ rfl
      rw [k6] at h; exact h
    have f1 : Row.opn Try.prog w (n - 1) 5 [x6] := by
      have h : Row.opn Try.prog w (n - 1) 5 (([x0, x1, x2, x3, x4, x5, x6].drop 6).take (Try.prog.cellsOf 5)) := hf 1 _ rfl
      rw [k1] at h; exact h
    obtain ⟨z, hz, wz⟩ := Row.opn_int f1 Try.underlying5
    cases hz
    obtain ⟨p, rfl, hp⟩ := u8_wf' _ wz
    obtain ⟨ts, hts, _, hcell⟩ := hrow
    have hts' : Try.prog.cellTypes Try.prog.depth 49 = some [22, 23, 22, 22, 24, 24, 5] := by kernel_rfl
    rw [hts'] at hts
    cases hts
    have hr6 : Row.okWide Try.prog w .any b 26 #[x0, x1, x2, x3, x4, x5] := by
      refine ⟨_, (by kernel_rfl : Try.prog.cellTypes Try.prog.depth 26 = some [22, 23, 22, 22, 24, 24]), ⟨1, rfl⟩, fun i v hv => ?_⟩
      match i, hv with
      | 0, hv => cases hv; exact hcell 0 _ rfl
      | 1, hv => cases hv; exact hcell 1 _ rfl
      | 2, hv => cases hv; exact hcell 2 _ rfl
      | 3, hv => cases hv; exact hcell 3 _ rfl
      | 4, hv => cases hv; exact hcell 4 _ rfl
      | 5, hv => cases hv; exact hcell 5 _ rfl
      | i + 6, hv => simp at hv
    obtain ⟨c, vo, vl, e, h1, h2, h3⟩ := open_cells (cs := #[x0, x1, x2, x3, x4, x5]) f0 hr6
    have e2 : [x0, x1, x2, x3, x4, x5] = [Value.int .u64 c.gen, .int .u32 c.ep, .int .u64 c.lsn, .int .u64 c.ver, vo, vl] := congrArg Array.toList e
    simp only [List.cons.injEq, and_true] at e2
    obtain ⟨rfl, rfl, rfl, rfl, rfl, rfl⟩ := e2
    exact ⟨c, _, _, p, rfl, h1, h2, h3, hp⟩

theorem best_torn (b : Ck) (hb : b.Kind) (rb : b.Right) (m t : ByteArray) (et : t = b.out) (h : decOk m → (decC m).gen < b.gen) : bestC m t = b ∧ bestI m t = 1 ∧ bestE m t = 0 := by
  subst et
  obtain ⟨a1, a2⟩ := dec_out _ hb rb
  have hy : bestY m b.out := by
    refine ⟨a1, ?_⟩
    by_cases hm : decOk m
    · exact Or.inr (by rw [a2]; exact h hm)
    · exact Or.inl hm
  exact ⟨(if_pos hy).trans a2, if_pos hy, if_pos (Or.inr a1)⟩
theorem best_whole (b c : Ck) (hb : b.Kind) (hc : c.Kind) (rb : b.Right) (rc : c.Right) (h : b.gen < c.gen) (m t : ByteArray) (em : m = c.out) (et : t = b.out) : bestC m t = c ∧ bestI m t = 0 ∧ bestE m t = 0 := by
  subst em et
  obtain ⟨a1, a2⟩ := dec_out _ hc rc
  obtain ⟨b1, b2⟩ := dec_out _ hb rb
  have hy : ¬ bestY c.out b.out := fun h2 => h2.2.elim (fun h3 => h3 a1) (by rw [a2, b2]; omega)
  exact ⟨(if_neg hy).trans a2, if_neg hy, if_pos (Or.inl a1)⟩
theorem mixed_list (u s : ByteArray) (k : Nat) (hs : s.size = 128) (hk : k ≤ 128) (hu : u.size = 128) : (u.extract 0 k ++ s.extract k s.size).data.toList = u.data.toList.take k ++ s.data.toList.drop k := by
  have e1 : (u.extract 0 k).data.toList = u.data.toList.take k := by simp
  have e2 : (s.extract k s.size).data.toList = s.data.toList.drop k := by
    have : s.data.toList.length = 128 := hs
    simp [ByteArray.data_extract]
    rw [List.take_of_length_le (by rw [List.length_drop]; omega)]
  rw [ByteArray.data_append, Array.toList_append, e1, e2]

set_option maxRecDepth 100000 in
set_option maxHeartbeats 6000000 in
theorem torn_main (ca : Ck) (voa vla : Value) (cb : Ck) (vob vlb : Value) (cc : Ck) (voc vlc : Value) (p : Nat) (w : World) (hka : ca.Kind) (hoa : Sl w voa ca.order) (hla : Sl w vla ca.lens) (hkb : cb.Kind) (hob : Sl w vob cb.order) (hlb : Sl w vlb cb.lens) (hkc : cc.Kind) (hoc : Sl w voc cc.order) (hlc : Sl w vlc cc.lens) (hp : p < 256) :
    Calls Try.prog 5 #[ca.val voa vla, cb.val vob vlb, .agg #[.int .u64 cc.gen, .int .u32 cc.ep, .int .u64 cc.lsn, .int .u64 cc.ver, voc, vlc, .int .u8 p]] w fun e w' => e = .returned (.bool true) ∧ Below w.heap.size w w' := by
  obtain ⟨uoa, ula, sua, sla, cuta⟩ := Cut_val ca voa vla w hoa hla
  have kca := hka.cut
  obtain ⟨da, hd⟩ : ∃ c, c = ca.cut := ⟨_, rfl⟩
  rw [← hd] at sua sla cuta kca
  clear hd
  obtain ⟨oaa, capa, rfl⟩ := hoa.form
  obtain ⟨oba, cbpa, rfl⟩ := hla.form
  obtain ⟨paa, dapa, rfl⟩ := sua.form
  obtain ⟨pba, dbpa, rfl⟩ := sla.form
  clear hoa hla hka
  obtain ⟨ga, epa, la, va, oda, lna⟩ := ca
  obtain ⟨ga', epa', la', va', oda', lna'⟩ := da
  simp only [Ck.val] at cuta sua sla ⊢
  obtain ⟨ma, hm⟩ : ∃ m, m = oda.length := ⟨_, rfl⟩
  simp only [← hm] at cuta ⊢
  clear hm
  obtain ⟨na, hm⟩ : ∃ m, m = lna.length := ⟨_, rfl⟩
  simp only [← hm] at cuta ⊢
  clear hm
  obtain ⟨ra, hra⟩ : ∃ m, m = oda'.length := ⟨_, rfl⟩
  simp only [← hra] at cuta sua ⊢
  obtain ⟨sa, hsa⟩ : ∃ m, m = lna'.length := ⟨_, rfl⟩
  simp only [← hsa] at cuta sla ⊢
  have HRa := Lib.hid hra
  have HSa := Lib.hid hsa
  have SUa := Lib.hid sua
  have SLa := Lib.hid sla
  have CUTa := Lib.hid cuta
  have KCa := Lib.hid kca
  clear hra hsa sua sla cuta kca
  obtain ⟨uob, ulb, sub, slb, cutb⟩ := Cut_val cb vob vlb w hob hlb
  have kcb := hkb.cut
  obtain ⟨db, hd⟩ : ∃ c, c = cb.cut := ⟨_, rfl⟩
  rw [← hd] at sub slb cutb kcb
  clear hd
  obtain ⟨oab, capb, rfl⟩ := hob.form
  obtain ⟨obb, cbpb, rfl⟩ := hlb.form
  obtain ⟨pab, dapb, rfl⟩ := sub.form
  obtain ⟨pbb, dbpb, rfl⟩ := slb.form
  clear hob hlb hkb
  obtain ⟨gb, epb, lb, vb, odb, lnb⟩ := cb
  obtain ⟨gb', epb', lb', vb', odb', lnb'⟩ := db
  simp only [Ck.val] at cutb sub slb ⊢
  obtain ⟨mb, hm⟩ : ∃ m, m = odb.length := ⟨_, rfl⟩
  simp only [← hm] at cutb ⊢
  clear hm
  obtain ⟨nb, hm⟩ : ∃ m, m = lnb.length := ⟨_, rfl⟩
  simp only [← hm] at cutb ⊢
  clear hm
  obtain ⟨rb, hrb⟩ : ∃ m, m = odb'.length := ⟨_, rfl⟩
  simp only [← hrb] at cutb sub ⊢
  obtain ⟨sb, hsb⟩ : ∃ m, m = lnb'.length := ⟨_, rfl⟩
  simp only [← hsb] at cutb slb ⊢
  have HRb := Lib.hid hrb
  have HSb := Lib.hid hsb
  have SUb := Lib.hid sub
  have SLb := Lib.hid slb
  have CUTb := Lib.hid cutb
  have KCb := Lib.hid kcb
  clear hrb hsb sub slb cutb kcb
  obtain ⟨uoc, ulc, suc, slc, cutc⟩ := Cut_val cc voc vlc w hoc hlc
  have kcc := hkc.cut
  obtain ⟨dc, hd⟩ : ∃ c, c = cc.cut := ⟨_, rfl⟩
  rw [← hd] at suc slc cutc kcc
  clear hd
  obtain ⟨oac, capc, rfl⟩ := hoc.form
  obtain ⟨obc, cbpc, rfl⟩ := hlc.form
  obtain ⟨pac, dapc, rfl⟩ := suc.form
  obtain ⟨pbc, dbpc, rfl⟩ := slc.form
  clear hoc hlc hkc
  obtain ⟨gc, epc, lc, vc, odc, lnc⟩ := cc
  obtain ⟨gc', epc', lc', vc', odc', lnc'⟩ := dc
  simp only [Ck.val] at cutc suc slc ⊢
  obtain ⟨mc, hm⟩ : ∃ m, m = odc.length := ⟨_, rfl⟩
  simp only [← hm] at cutc ⊢
  clear hm
  obtain ⟨nc, hm⟩ : ∃ m, m = lnc.length := ⟨_, rfl⟩
  simp only [← hm] at cutc ⊢
  clear hm
  obtain ⟨rc, hrc⟩ : ∃ m, m = odc'.length := ⟨_, rfl⟩
  simp only [← hrc] at cutc suc ⊢
  obtain ⟨sc, hsc⟩ : ∃ m, m = lnc'.length := ⟨_, rfl⟩
  simp only [← hsc] at cutc slc ⊢
  have HRc := Lib.hid hrc
  have HSc := Lib.hid hsc
  have SUc := Lib.hid suc
  have SLc := Lib.hid slc
  have CUTc := Lib.hid cutc
  have KCc := Lib.hid kcc
  clear hrc hsc suc slc cutc kcc
  go_enter Try.func5, Try.ntmps5
  obtain ⟨W0, hW0⟩ : ∃ x, x = (((w.alloc (.cells #[.int .u64 ga, .int .u32 epa, .int .u64 la, .int .u64 va, .slice oaa ma capa, .slice oba na cbpa] 26)).alloc (.cells #[.int .u64 gb, .int .u32 epb, .int .u64 lb, .int .u64 vb, .slice oab mb capb, .slice obb nb cbpb] 26)).alloc (.cells #[.int .u64 gc, .int .u32 epc, .int .u64 lc, .int .u64 vc, .slice oac mc capc, .slice obc nc cbpc, .int .u8 p] 49)) := ⟨_, rfl⟩
  obtain ⟨xa0, xb0, xt0, pb0⟩ := three_new w (.cells #[.int .u64 ga, .int .u32 epa, .int .u64 la, .int .u64 va, .slice oaa ma capa, .slice oba na cbpa] 26) (.cells #[.int .u64 gb, .int .u32 epb, .int .u64 lb, .int .u64 vb, .slice oab mb capb, .slice obb nb cbpb] 26) (.cells #[.int .u64 gc, .int .u32 epc, .int .u64 lc, .int .u64 vc, .slice oac mc capc, .slice obc nc cbpc, .int .u8 p] 49)
  rw [← hW0] at xa0 xb0 xt0 pb0
  have Xa0 := Lib.hid xa0
  have Xb0 := Lib.hid xb0
  have Xt0 := Lib.hid xt0
  have PB0 := Lib.hid pb0
  have HW0 := Lib.hid hW0
  clear pb0 hW0 xa0 xb0 xt0
  go_wp2_with fail
  simp only [Nat.add_assoc, Nat.reduceAdd]
  rw [← HW0.out]
  refine (CUTa.out _).mono ?_; rintro e w1 ⟨rfl, hb⟩
  have ya := (hb.block _ (lt_of_row Xa0.out)).trans Xa0.out
  have yb := (hb.block _ (lt_of_row Xb0.out)).trans Xb0.out
  have yt := (hb.block _ (lt_of_row Xt0.out)).trans Xt0.out
  have pb := below_step PB0.out hb
  clear hb
  have OLD := Lib.hid ya
  have ONE : Hid ((#[.int .u64 ga', .int .u32 epa', .int .u64 la', .int .u64 va', .slice paa ra dapa, .slice pba sa dbpa] : Array Value).all (·.oneCell') = true) := Lib.hid (by simp [Value.oneCell'])
  obtain ⟨W1, hW⟩ : ∃ z, z = w1.setRow w.heap.size #[.int .u64 ga', .int .u32 epa', .int .u64 la', .int .u64 va', .slice paa ra dapa, .slice pba sa dbpa] := ⟨_, rfl⟩
  have pb' := pb.setRow (show w.heap.size ≤ w.heap.size by omega) #[.int .u64 ga', .int .u32 epa', .int .u64 la', .int .u64 va', .slice paa ra dapa, .slice pba sa dbpa]
  rw [← hW] at pb'
  have Xa1 := Lib.hid (setRow_heap w1 w.heap.size _ #[.int .u64 ga', .int .u32 epa', .int .u64 la', .int .u64 va', .slice paa ra dapa, .slice pba sa dbpa] _ _ ya)
  have Xb1 := Lib.hid ((setRow_other w1 w.heap.size (w.heap.size + 1) #[.int .u64 ga', .int .u32 epa', .int .u64 la', .int .u64 va', .slice paa ra dapa, .slice pba sa dbpa] (by omega)).trans yb)
  have Xt1 := Lib.hid ((setRow_other w1 w.heap.size (w.heap.size + 2) #[.int .u64 ga', .int .u32 epa', .int .u64 la', .int .u64 va', .slice paa ra dapa, .slice pba sa dbpa] (by omega)).trans yt)
  simp only [← hW] at Xa1 Xb1 Xt1
  have PB1 := Lib.hid pb'
  have HW := Lib.hid hW
  clear pb pb' hW ya yb yt
  obtain ⟨z0, z1, z2, z3, z4, z5⟩ := cells6 Xb1.out
  rw [HW.out] at z0 z1 z2 z3 z4 z5
  go_wp2_with (refine wpList_store_row rfl 26 _ _ rfl w.heap.size #[.int .u64 ga', .int .u32 epa', .int .u64 la', .int .u64 va', .slice paa ra dapa, .slice pba sa dbpa] rfl rfl _ _ OLD.out (by kernel_rfl) rfl ONE.out ?_)
  rw [← HW.out]
  clear z0 z1 z2 z3 z4 z5 OLD ONE HW
  refine (CUTb.out _).mono ?_; rintro e w2 ⟨rfl, hb⟩
  have ya := (hb.block _ (lt_of_row Xa1.out)).trans Xa1.out
  have yb := (hb.block _ (lt_of_row Xb1.out)).trans Xb1.out
  have yt := (hb.block _ (lt_of_row Xt1.out)).trans Xt1.out
  have pb := below_step PB1.out hb
  clear hb
  have OLD := Lib.hid yb
  have ONE : Hid ((#[.int .u64 gb', .int .u32 epb', .int .u64 lb', .int .u64 vb', .slice pab rb dapb, .slice pbb sb dbpb] : Array Value).all (·.oneCell') = true) := Lib.hid (by simp [Value.oneCell'])
  obtain ⟨W2, hW⟩ : ∃ z, z = w2.setRow (w.heap.size + 1) #[.int .u64 gb', .int .u32 epb', .int .u64 lb', .int .u64 vb', .slice pab rb dapb, .slice pbb sb dbpb] := ⟨_, rfl⟩
  have pb' := pb.setRow (show w.heap.size ≤ (w.heap.size + 1) by omega) #[.int .u64 gb', .int .u32 epb', .int .u64 lb', .int .u64 vb', .slice pab rb dapb, .slice pbb sb dbpb]
  rw [← hW] at pb'
  have Xa2 := Lib.hid ((setRow_other w2 (w.heap.size + 1) w.heap.size #[.int .u64 gb', .int .u32 epb', .int .u64 lb', .int .u64 vb', .slice pab rb dapb, .slice pbb sb dbpb] (by omega)).trans ya)
  have Xb2 := Lib.hid (setRow_heap w2 (w.heap.size + 1) _ #[.int .u64 gb', .int .u32 epb', .int .u64 lb', .int .u64 vb', .slice pab rb dapb, .slice pbb sb dbpb] _ _ yb)
  have Xt2 := Lib.hid ((setRow_other w2 (w.heap.size + 1) (w.heap.size + 2) #[.int .u64 gb', .int .u32 epb', .int .u64 lb', .int .u64 vb', .slice pab rb dapb, .slice pbb sb dbpb] (by omega)).trans yt)
  simp only [← hW] at Xa2 Xb2 Xt2
  have PB2 := Lib.hid pb'
  have HW := Lib.hid hW
  clear pb pb' hW ya yb yt
  obtain ⟨z0, z1, z2, z3, z4, z5⟩ := cells6 Xa2.out
  rw [HW.out] at z0 z1 z2 z3 z4 z5
  go_wp2_with (refine wpList_store_row rfl 26 _ _ rfl (w.heap.size + 1) #[.int .u64 gb', .int .u32 epb', .int .u64 lb', .int .u64 vb', .slice pab rb dapb, .slice pbb sb dbpb] rfl rfl _ _ OLD.out (by kernel_rfl) rfl ONE.out ?_)
  rw [← HW.out]
  clear z0 z1 z2 z3 z4 z5 OLD ONE HW
  obtain ⟨W, hW⟩ : ∃ z, z = W2 := ⟨_, rfl⟩
  rw [← hW] at PB2 Xa2 Xb2 Xt2 ⊢
  clear hW
  have PB := PB2
  obtain ⟨At, hAt⟩ : ∃ z, z = (w.heap.size + 2) := ⟨_, rfl⟩
  simp only [← hAt] at Xt2 ⊢
  obtain ⟨Ab, hAb⟩ : ∃ z, z = (w.heap.size + 1) := ⟨_, rfl⟩
  simp only [← hAb] at Xb2 ⊢
  obtain ⟨Aa, hAa⟩ : ∃ z, z = w.heap.size := ⟨_, rfl⟩
  simp only [← hAa] at Xa2 ⊢
  clear hAa hAb hAt
  have RXt : Hid (∀ V, Below W.heap.size W V → V.heap[At]? = some (.cells #[.int .u64 gc, .int .u32 epc, .int .u64 lc, .int .u64 vc, .slice oac mc capc, .slice obc nc cbpc, .int .u8 p] 49 (0, 0))) := Lib.hid (fun V h => (h.block _ (lt_of_row Xt2.out)).trans Xt2.out)
  have su := SUa.out.below PB.out (Nat.le_refl _)
  have sl := SLa.out.below PB.out (Nat.le_refl _)
  obtain ⟨uoa, ho⟩ : ∃ z, z = Value.slice paa ra dapa := ⟨_, rfl⟩
  obtain ⟨ula, hl⟩ : ∃ z, z = Value.slice pba sa dbpa := ⟨_, rfl⟩
  have xr := Xa2.out
  simp only [← ho, ← hl] at su sl xr ⊢
  clear ho hl
  have SOa := Lib.hid su
  have SNa := Lib.hid sl
  have RXa : Hid (∀ V, Below W.heap.size W V → V.heap[Aa]? = some (.cells #[.int .u64 ga', .int .u32 epa', .int .u64 la', .int .u64 va', uoa, ula] 26 (0, 0))) := Lib.hid (fun V h => (h.block _ (lt_of_row xr)).trans xr)
  clear su sl xr
  have su := SUb.out.below PB.out (Nat.le_refl _)
  have sl := SLb.out.below PB.out (Nat.le_refl _)
  obtain ⟨uob, ho⟩ : ∃ z, z = Value.slice pab rb dapb := ⟨_, rfl⟩
  obtain ⟨ulb, hl⟩ : ∃ z, z = Value.slice pbb sb dbpb := ⟨_, rfl⟩
  have xr := Xb2.out
  simp only [← ho, ← hl] at su sl xr ⊢
  clear ho hl
  have SOb := Lib.hid su
  have SNb := Lib.hid sl
  have RXb : Hid (∀ V, Below W.heap.size W V → V.heap[Ab]? = some (.cells #[.int .u64 gb', .int .u32 epb', .int .u64 lb', .int .u64 vb', uob, ulb] 26 (0, 0))) := Lib.hid (fun V h => (h.block _ (lt_of_row xr)).trans xr)
  clear su sl xr
  clear SUa SLa CUTa SUb SLb CUTb Xa0 Xa1 Xa2 Xb0 Xb1 Xb2 Xt0 Xt1 Xt2 PB0 PB1 PB2 HW0
  have suc := SUc.out.below PB.out (Nat.le_refl _)
  have slc := SLc.out.below PB.out (Nat.le_refl _)
  have r0 : ∀ V, Below W.heap.size W V → V.heap[At]? = some (.cells #[.int .u64 gc, .int .u32 epc, .int .u64 lc, .int .u64 vc, .slice oac mc capc, .slice obc nc cbpc, .int .u8 p] 49 (0, 0)) := RXt.out
  have t0 : ∀ V, Below W.heap.size W V → V.cell? ⟨At, 0, none⟩ = some (.int .u64 gc) := fun V h => (cell_of_row _ _ 0 _ _ _ (r0 V h)).trans rfl
  have t1 : ∀ V, Below W.heap.size W V → V.cell? ⟨At, 1, none⟩ = some (.int .u32 epc) := fun V h => (cell_of_row _ _ 1 _ _ _ (r0 V h)).trans rfl
  have t2 : ∀ V, Below W.heap.size W V → V.cell? ⟨At, 2, none⟩ = some (.int .u64 lc) := fun V h => (cell_of_row _ _ 2 _ _ _ (r0 V h)).trans rfl
  have t3 : ∀ V, Below W.heap.size W V → V.cell? ⟨At, 3, none⟩ = some (.int .u64 vc) := fun V h => (cell_of_row _ _ 3 _ _ _ (r0 V h)).trans rfl
  have t4 : ∀ V, Below W.heap.size W V → V.cell? ⟨At, 4, none⟩ = some (.slice oac mc capc) := fun V h => (cell_of_row _ _ 4 _ _ _ (r0 V h)).trans rfl
  have t5 : ∀ V, Below W.heap.size W V → V.cell? ⟨At, 5, none⟩ = some (.slice obc nc cbpc) := fun V h => (cell_of_row _ _ 5 _ _ _ (r0 V h)).trans rfl
  have t6 : ∀ V, Below W.heap.size W V → V.cell? ⟨At, 6, none⟩ = some (.int .u8 p) := fun V h => (cell_of_row _ _ 6 _ _ _ (r0 V h)).trans rfl
  have hzc := zero_check
  clear r0
  refine wp_region_held (S := fun V => Below W.heap.size W V) (by kernel_rfl) ?_
  have hS0 : Below W.heap.size W { W with drawn := W.drawn + 1 } := ⟨rfl, rfl, rfl, Nat.le_refl _, fun _ _ => rfl⟩
  refine wpAnyH_take (i := 0) (v := .pointer (some ⟨At, 0, none⟩)) rfl (by kernel_rfl) ?_ ?_ (fun _ _ _ h => h) (Or.inl ⟨by rfl, ?_⟩) hS0 ?_
  · kernel_rfl
  · kernel_rfl
  · intro V hV; go_simp
  refine wpAnyH_take (i := 1) (v := .agg #[.int .u64 gc, .int .u32 epc, .int .u64 lc, .int .u64 vc, .slice oac mc capc, .slice obc nc cbpc]) rfl (by kernel_rfl) ?_ ?_ (fun _ _ _ h => h) (Or.inl ⟨by rfl, ?_⟩) hS0 ?_
  · kernel_rfl
  · kernel_rfl
  · intro V hV; go_simp
  refine wpAnyH_take (i := 3) (v := .pointer (some ⟨At, 6, none⟩)) rfl (by kernel_rfl) ?_ ?_ (fun _ _ _ h => h) (Or.inl ⟨by rfl, ?_⟩) hS0 ?_
  · kernel_rfl
  · kernel_rfl
  · intro V hV; go_simp
  refine wpAnyH_take (i := 4) (v := .int .u8 p) rfl (by kernel_rfl) ?_ ?_ (fun _ _ _ h => h) (Or.inl ⟨by rfl, ?_⟩) hS0 ?_
  · kernel_rfl
  · kernel_rfl
  · intro V hV; go_simp
  obtain ⟨Wd, hWd⟩ : ∃ x, x = { W with drawn := W.drawn + 1 } := ⟨_, rfl⟩
  rw [← hWd] at hS0 ⊢
  clear hWd t0 t1 t2 t3 t4 t5 t6
  have ONE : Hid ((#[.int .u64 gc', .int .u32 epc', .int .u64 lc', .int .u64 vc', .slice pac rc dapc, .slice pbc sc dbpc] : Array Value).all (·.oneCell') = true) := Lib.hid (by simp [Value.oneCell'])
  refine wpAnyH_ready (rs := [2, 5]) (by kernel_rfl) (by simp) ?_
  refine AllReadyH.cons rfl (fun K hK => ?_) (AllReadyH.cons rfl (fun K hK => ?_) AllReadyH.nil)
  · go_simp
    refine (CUTc.out _).mono ?_; rintro e w1 ⟨rfl, hb1⟩
    have s1 := below_step hS0 hb1
    (try go_simp)
    refine hK.out _ _ s1 (fun _ => ?_)
    clear hK K
    refine wpAnyH_ready (rs := [5]) (by kernel_rfl) (by simp) ?_
    refine AllReadyH.cons rfl (fun K hK => ?_) AllReadyH.nil
    go_simp
    have s2 := s1.alloc s1.size (.cells #[.int .u64 0, .int .u32 0, .int .u64 0, .int .u64 0, .slice none 0 0, .slice none 0 0] 26)
    refine hK.out _ _ s2 (fun _ => ?_)
    clear hK K
    have hrow := heap_alloc_new w1 (.cells #[.int .u64 0, .int .u32 0, .int .u64 0, .int .u64 0, .slice none 0 0, .slice none 0 0] 26)
    have hge := s1.size
    have pb2 := s2.setRow hge #[.int .u64 gc', .int .u32 epc', .int .u64 lc', .int .u64 vc', .slice pac rc dapc, .slice pbc sc dbpc]
    have hrow2 := setRow_heap _ _ _ #[.int .u64 gc', .int .u32 epc', .int .u64 lc', .int .u64 vc', .slice pac rc dapc, .slice pbc sc dbpc] _ _ hrow
    obtain ⟨Ac, hAc⟩ : ∃ x, x = w1.heap.size := ⟨_, rfl⟩
    refine wpAnyH_ready (rs := [6]) (by kernel_rfl) (by simp) ?_
    refine AllReadyH.cons rfl (fun K hK => ?_) AllReadyH.nil
    rw [if_pos (by rfl)]
    refine wp_store_row 26 _ _ rfl _ #[.int .u64 gc', .int .u32 epc', .int .u64 lc', .int .u64 vc', .slice pac rc dapc, .slice pbc sc dbpc] rfl rfl _ _ hrow (by kernel_rfl) rfl ONE.out ?_
    refine hK.out _ _ pb2 (fun _ => ?_)
    clear hK K
    refine wpAnyH_ready (rs := [7]) (by kernel_rfl) (by simp) ?_
    refine AllReadyH.cons rfl (fun K hK => ?_) AllReadyH.nil
    go_simp
    refine hK.out _ _ pb2 (fun _ => ?_)
    clear hK K
    refine wpAnyH_done (by kernel_rfl) ?_ _
    obtain ⟨W2, hW2⟩ : ∃ x, x = (w1.alloc (.cells #[.int .u64 0, .int .u32 0, .int .u64 0, .int .u64 0, .slice none 0 0, .slice none 0 0] 26)).setRow w1.heap.size #[.int .u64 gc', .int .u32 epc', .int .u64 lc', .int .u64 vc', .slice pac rc dapc, .slice pbc sc dbpc] := ⟨_, rfl⟩
    simp only [← hAc] at hW2 pb2 hrow2 ⊢
    rw [← hW2] at pb2 hrow2 ⊢
    clear hrow hge hAc s1 s2 hb1 hS0 hW2
    have suc := suc.below pb2 (Nat.le_refl _)
    have slc := slc.below pb2 (Nat.le_refl _)
    obtain ⟨uoc, ho⟩ : ∃ z, z = Value.slice pac rc dapc := ⟨_, rfl⟩
    obtain ⟨ulc, hl⟩ : ∃ z, z = Value.slice pbc sc dbpc := ⟨_, rfl⟩
    simp only [← ho, ← hl] at suc slc hrow2 ⊢
    have RXa2 : Hid (∀ V, Below W2.heap.size W2 V → V.heap[Aa]? = some (.cells #[.int .u64 ga', .int .u32 epa', .int .u64 la', .int .u64 va', uoa, ula] 26 (0, 0))) := Lib.hid (fun V h => RXa.out V (below_step pb2 h))
    have RXb2 : Hid (∀ V, Below W2.heap.size W2 V → V.heap[Ab]? = some (.cells #[.int .u64 gb', .int .u32 epb', .int .u64 lb', .int .u64 vb', uob, ulb] 26 (0, 0))) := Lib.hid (fun V h => RXb.out V (below_step pb2 h))
    have RXc2 : Hid (∀ V, Below W2.heap.size W2 V → V.heap[Ac]? = some (.cells #[.int .u64 gc', .int .u32 epc', .int .u64 lc', .int .u64 vc', uoc, ulc] 26 (0, 0))) := Lib.hid (fun V h => (h.block _ (lt_of_row hrow2)).trans hrow2)
    have SOa2 := Lib.hid (SOa.out.below pb2 (Nat.le_refl _))
    have SNa2 := Lib.hid (SNa.out.below pb2 (Nat.le_refl _))
    have SOb2 := Lib.hid (SOb.out.below pb2 (Nat.le_refl _))
    have SNb2 := Lib.hid (SNb.out.below pb2 (Nat.le_refl _))
    have SOc2 := Lib.hid suc
    have SNc2 := Lib.hid slc
    have PB2 := Lib.hid (below_step PB.out pb2)
    clear ho hl suc slc hrow2 pb2 ONE RXa RXb RXt SOa SNa SOb SNb PB SUc SLc CUTc
    obtain ⟨k, hkk⟩ : ∃ k, k = p % 129 := ⟨_, rfl⟩
    have hk128 : k ≤ 128 := by omega
    have wp : wrap64 (p : Int) = (p : Int) := IntWalk.wrap64_in _ (by omega)
    have rp : (p : Int).tmod 129 = (k : Int) := by rw [hkk]; exact (Int.ofNat_tmod p 129).symm
    have HKK := Lib.hid hkk
    clear hkk
    by_cases hAa : (Ck.mk ga' epa' la' va' oda' lna').Right
    · by_cases hAb : (Ck.mk gb' epb' lb' vb' odb' lnb').Right
      · have HAa := Lib.hid hAa
        clear hAa
        obtain ⟨za, hz⟩ : ∃ z, z = (Ck.mk ga' epa' la' va' oda' lna').out := ⟨_, rfl⟩
        have Hza := Lib.hid hz
        clear hz
        have HAb := Lib.hid hAb
        clear hAb
        obtain ⟨zb, hz⟩ : ∃ z, z = (Ck.mk gb' epb' lb' vb' odb' lnb').out := ⟨_, rfl⟩
        have Hzb := Lib.hid hz
        clear hz
        by_cases hAc : (Ck.mk gc' epc' lc' vc' odc' lnc').Right
        · have HAc := Lib.hid hAc
          clear hAc
          obtain ⟨zc, hz⟩ : ∃ z, z = (Ck.mk gc' epc' lc' vc' odc' lnc').out := ⟨_, rfl⟩
          have Hzc := Lib.hid hz
          clear hz
          by_cases hcb : (gc' : Int) ≤ (gb' : Int)
          · have h0 := Below.refl W2.heap.size W2
            obtain ⟨z0, z1, z2, z3, z4, z5⟩ := cells6 (RXa2.out _ h0)
            go_wp2_with fail
            clear z0 z1 z2 z3 z4 z5
            refine (Encode_val (Ck.mk ga' epa' la' va' oda' lna') uoa ula _ KCa.out (SOa2.out.below h0 (Nat.le_refl _)) (SNa2.out.below h0 (Nat.le_refl _)) za 0 Hza (Lib.hid (if_pos HAa.out).symm)).mono ?_; rintro e w3 ⟨rfl, h3⟩
            obtain ⟨z0, z1, z2, z3, z4, z5⟩ := cells6 (RXb2.out _ h3)
            go_wp2_with fail
            clear z0 z1 z2 z3 z4 z5
            refine (Encode_val (Ck.mk gb' epb' lb' vb' odb' lnb') uob ulb _ KCb.out (SOb2.out.below h3 (Nat.le_refl _)) (SNb2.out.below h3 (Nat.le_refl _)) zb 0 Hzb (Lib.hid (if_pos HAb.out).symm)).mono ?_; rintro e w4 ⟨rfl, hb⟩
            have h4 := below_step h3 hb
            clear hb h3
            obtain ⟨z0, z1, z2, z3, z4, z5⟩ := cells6 (RXc2.out _ h4)
            go_wp2_with fail
            clear z0 z1 z2 z3 z4 z5
            refine (Encode_val (Ck.mk gc' epc' lc' vc' odc' lnc') uoc ulc _ KCc.out (SOc2.out.below h4 (Nat.le_refl _)) (SNc2.out.below h4 (Nat.le_refl _)) zc 0 Hzc (Lib.hid (if_pos HAc.out).symm)).mono ?_; rintro e w5 ⟨rfl, hb⟩
            have h5 := below_step h4 hb
            clear hb h4 h0
            obtain ⟨a0, a1, a2, a3, a4, a5⟩ := cells6 (RXa2.out _ h5)
            obtain ⟨b0, b1, b2, b3, b4, b5⟩ := cells6 (RXb2.out _ h5)
            obtain ⟨c0, c1, c2, c3, c4, c5⟩ := cells6 (RXc2.out _ h5)
            clear a1 a2 a3 a4 a5 b1 b2 b3 b4 b5 c1 c2 c3 c4 c5
            obtain ⟨zs, hzs⟩ : ∃ z, z = za := ⟨_, rfl⟩
            have hss : zs.size = 128 := by rw [hzs, Hza.out]; exact out_size _ HAa.out
            have qs : ((zs.size : Int) != 128) = false := by rw [bne, beq_iff_eq.2 (show (zs.size : Int) = 128 by omega)]; rfl
            have HSS := Lib.hid hss
            clear hss
            have hcs : zc.size = 128 := by rw [Hzc.out]; exact out_size _ HAc.out
            have qc : ((zc.size : Int) != 128) = false := by rw [bne, beq_iff_eq.2 (show (zc.size : Int) = 128 by omega)]; rfl
            have qc2 : ((zc.size : Int) == 128) = true := beq_iff_eq.2 (by omega)
            have HCS := Lib.hid hcs
            clear hcs
            have HZS := Lib.hid hzs
            rw [← hzs]
            clear hzs
            go_wp2_with fail
            refine (fixed_val _).mono ?_; rintro e w6 ⟨rfl, h6⟩
            go_wp2_with fail
            go_ret
            exact ⟨rfl, below_step PB2.out (below_step h5 h6)⟩
          · by_cases hba : (gb' : Int) ≤ (ga' : Int)
            · have h0 := Below.refl W2.heap.size W2
              obtain ⟨z0, z1, z2, z3, z4, z5⟩ := cells6 (RXa2.out _ h0)
              go_wp2_with fail
              clear z0 z1 z2 z3 z4 z5
              refine (Encode_val (Ck.mk ga' epa' la' va' oda' lna') uoa ula _ KCa.out (SOa2.out.below h0 (Nat.le_refl _)) (SNa2.out.below h0 (Nat.le_refl _)) za 0 Hza (Lib.hid (if_pos HAa.out).symm)).mono ?_; rintro e w3 ⟨rfl, h3⟩
              obtain ⟨z0, z1, z2, z3, z4, z5⟩ := cells6 (RXb2.out _ h3)
              go_wp2_with fail
              clear z0 z1 z2 z3 z4 z5
              refine (Encode_val (Ck.mk gb' epb' lb' vb' odb' lnb') uob ulb _ KCb.out (SOb2.out.below h3 (Nat.le_refl _)) (SNb2.out.below h3 (Nat.le_refl _)) zb 0 Hzb (Lib.hid (if_pos HAb.out).symm)).mono ?_; rintro e w4 ⟨rfl, hb⟩
              have h4 := below_step h3 hb
              clear hb h3
              obtain ⟨z0, z1, z2, z3, z4, z5⟩ := cells6 (RXc2.out _ h4)
              go_wp2_with fail
              clear z0 z1 z2 z3 z4 z5
              refine (Encode_val (Ck.mk gc' epc' lc' vc' odc' lnc') uoc ulc _ KCc.out (SOc2.out.below h4 (Nat.le_refl _)) (SNc2.out.below h4 (Nat.le_refl _)) zc 0 Hzc (Lib.hid (if_pos HAc.out).symm)).mono ?_; rintro e w5 ⟨rfl, hb⟩
              have h5 := below_step h4 hb
              clear hb h4 h0
              obtain ⟨a0, a1, a2, a3, a4, a5⟩ := cells6 (RXa2.out _ h5)
              obtain ⟨b0, b1, b2, b3, b4, b5⟩ := cells6 (RXb2.out _ h5)
              obtain ⟨c0, c1, c2, c3, c4, c5⟩ := cells6 (RXc2.out _ h5)
              clear a1 a2 a3 a4 a5 b1 b2 b3 b4 b5 c1 c2 c3 c4 c5
              obtain ⟨zs, hzs⟩ : ∃ z, z = za := ⟨_, rfl⟩
              have hss : zs.size = 128 := by rw [hzs, Hza.out]; exact out_size _ HAa.out
              have qs : ((zs.size : Int) != 128) = false := by rw [bne, beq_iff_eq.2 (show (zs.size : Int) = 128 by omega)]; rfl
              have HSS := Lib.hid hss
              clear hss
              have hcs : zc.size = 128 := by rw [Hzc.out]; exact out_size _ HAc.out
              have qc : ((zc.size : Int) != 128) = false := by rw [bne, beq_iff_eq.2 (show (zc.size : Int) = 128 by omega)]; rfl
              have qc2 : ((zc.size : Int) == 128) = true := beq_iff_eq.2 (by omega)
              have HCS := Lib.hid hcs
              clear hcs
              have HZS := Lib.hid hzs
              rw [← hzs]
              clear hzs
              go_wp2_with fail
              refine (fixed_val _).mono ?_; rintro e w6 ⟨rfl, h6⟩
              go_wp2_with fail
              go_ret
              exact ⟨rfl, below_step PB2.out (below_step h5 h6)⟩
            · have h0 := Below.refl W2.heap.size W2
              obtain ⟨z0, z1, z2, z3, z4, z5⟩ := cells6 (RXa2.out _ h0)
              go_wp2_with fail
              clear z0 z1 z2 z3 z4 z5
              refine (Encode_val (Ck.mk ga' epa' la' va' oda' lna') uoa ula _ KCa.out (SOa2.out.below h0 (Nat.le_refl _)) (SNa2.out.below h0 (Nat.le_refl _)) za 0 Hza (Lib.hid (if_pos HAa.out).symm)).mono ?_; rintro e w3 ⟨rfl, h3⟩
              obtain ⟨z0, z1, z2, z3, z4, z5⟩ := cells6 (RXb2.out _ h3)
              go_wp2_with fail
              clear z0 z1 z2 z3 z4 z5
              refine (Encode_val (Ck.mk gb' epb' lb' vb' odb' lnb') uob ulb _ KCb.out (SOb2.out.below h3 (Nat.le_refl _)) (SNb2.out.below h3 (Nat.le_refl _)) zb 0 Hzb (Lib.hid (if_pos HAb.out).symm)).mono ?_; rintro e w4 ⟨rfl, hb⟩
              have h4 := below_step h3 hb
              clear hb h3
              obtain ⟨z0, z1, z2, z3, z4, z5⟩ := cells6 (RXc2.out _ h4)
              go_wp2_with fail
              clear z0 z1 z2 z3 z4 z5
              refine (Encode_val (Ck.mk gc' epc' lc' vc' odc' lnc') uoc ulc _ KCc.out (SOc2.out.below h4 (Nat.le_refl _)) (SNc2.out.below h4 (Nat.le_refl _)) zc 0 Hzc (Lib.hid (if_pos HAc.out).symm)).mono ?_; rintro e w5 ⟨rfl, hb⟩
              have h5 := below_step h4 hb
              clear hb h4 h0
              obtain ⟨a0, a1, a2, a3, a4, a5⟩ := cells6 (RXa2.out _ h5)
              obtain ⟨b0, b1, b2, b3, b4, b5⟩ := cells6 (RXb2.out _ h5)
              obtain ⟨c0, c1, c2, c3, c4, c5⟩ := cells6 (RXc2.out _ h5)
              clear a1 a2 a3 a4 a5 b1 b2 b3 b4 b5 c1 c2 c3 c4 c5
              obtain ⟨zs, hzs⟩ : ∃ z, z = za := ⟨_, rfl⟩
              have hss : zs.size = 128 := by rw [hzs, Hza.out]; exact out_size _ HAa.out
              have qs : ((zs.size : Int) != 128) = false := by rw [bne, beq_iff_eq.2 (show (zs.size : Int) = 128 by omega)]; rfl
              have HSS := Lib.hid hss
              clear hss
              have hcs : zc.size = 128 := by rw [Hzc.out]; exact out_size _ HAc.out
              have qc : ((zc.size : Int) != 128) = false := by rw [bne, beq_iff_eq.2 (show (zc.size : Int) = 128 by omega)]; rfl
              have qc2 : ((zc.size : Int) == 128) = true := beq_iff_eq.2 (by omega)
              have HCS := Lib.hid hcs
              clear hcs
              have HZS := Lib.hid hzs
              rw [← hzs]
              clear hzs
              go_wp2_with fail
              have hcs := HCS.out
              have hss := HSS.out
              obtain ⟨m, hm⟩ : ∃ m, m = zc.extract 0 k ++ zs.extract k zs.size := ⟨_, rfl⟩
              have hml : m.data.toList = (Ck.mk gc' epc' lc' vc' odc' lnc').out.data.toList.take k ++ zs.data.toList.drop k := by rw [hm, mixed_list zc zs k hss hk128 hcs, Hzc.out]
              have sz1 : ¬ (zc.size : Int) < (k : Int) := by omega
              have sz2 : ¬ (zs.size : Int) < (k : Int) := by omega
              have sz3 : (9223372036854775807 < (zc.extract 0 k).size + (zs.extract k zs.size).size) = False := eq_false (by rw [ByteArray.size_extract, ByteArray.size_extract]; omega)
              have sz4 : (9223372036854775807 < min k zc.size + (zs.size - k)) = False := eq_false (by omega)
              have sz5 : (9223372036854775807 < min k zc.size + (min zs.size zs.size - k)) = False := eq_false (by omega)
              have HM := Lib.hid hm
              have HML := Lib.hid hml
              clear hcs hss hm hml
              go_wp2_with fail
              refine Loose.wp_region_quiet_fast (by kernel_rfl) (by kernel_rfl) ?_
              (try simp only [List.append_eq, List.cons_append, List.nil_append])
              repeat (go_big_quiet_step (fail))
              refine wpQuiet_nil ?_
              intro _ hw'
              obtain ⟨⟨dq, osq⟩, hw''⟩ := hw'
              subst hw''
              simp only [← HM.out]
              obtain ⟨W6, hW6⟩ : ∃ z, z = Sort.grow (redrawn w5 dq) osq := ⟨_, rfl⟩
              have h6 := below_step h5 (below_regrown w5 dq osq)
              rw [← hW6] at h6 ⊢
              clear hW6 dq osq h5 a0 b0 c0 sz1 sz2 sz3 sz4 sz5 qs qc qc2
              go_wp2_with fail
              by_cases hme : m = zc
              · have e1 := fun V => Best_val m zb V
                obtain ⟨q1, q2, q3⟩ := best_whole (Ck.mk gb' epb' lb' vb' odb' lnb') (Ck.mk gc' epc' lc' vc' odc' lnc') KCb.out KCc.out HAb.out HAc.out (show gb' < gc' by omega) m zb (hme.trans Hzc.out) Hzb.out
                rw [q1, q2, q3] at e1
                simp only [Ck.val] at e1
                have E1 := Lib.hid e1
                have qm : (m.toList == zc.toList) = true := beq_iff_eq.2 (by rw [hme])
                have HME := Lib.hid hme
                clear e1 q1 q2 q3 hme
                refine (E1.out _).mono ?_; rintro e w17 ⟨⟨xo17, xl17, rfl, ho, hl⟩, hb⟩
                obtain ⟨qa, qp, rfl⟩ := ho.form
                obtain ⟨qb, qq, rfl⟩ := hl.form
                obtain ⟨na, hna⟩ : ∃ m, m = (odc' : List Int).length := ⟨_, rfl⟩
                obtain ⟨nb, hnb⟩ : ∃ m, m = (lnc' : List Int).length := ⟨_, rfl⟩
                replace ho : Sl w17 (.slice qa na qp) odc' := by rw [hna]; exact ho
                replace hl : Sl w17 (.slice qb nb qq) lnc' := by rw [hnb]; exact hl
                have hbb := below_step h6 hb
                clear hb
                have HO := Lib.hid ho
                have HL := Lib.hid hl
                clear ho hl
                simp only [← hna, ← hnb]
                clear hna hnb
                go_wp2_with fail
                obtain ⟨X17, hX⟩ : ∃ x, x = w17.heap.size := ⟨_, rfl⟩
                have m17 := heap_alloc_new w17 (.cells #[.int .u64 gc', .int .u32 epc', .int .u64 lc', .int .u64 vc', .slice qa na qp, .slice qb nb qq] 26)
                have mb := (Below.refl w17.heap.size w17).alloc (Nat.le_refl _) (.cells #[.int .u64 gc', .int .u32 epc', .int .u64 lc', .int .u64 vc', .slice qa na qp, .slice qb nb qq] 26)
                obtain ⟨W17, hW⟩ : ∃ x, x = w17.alloc (.cells #[.int .u64 gc', .int .u32 epc', .int .u64 lc', .int .u64 vc', .slice qa na qp, .slice qb nb qq] 26) := ⟨_, rfl⟩
                simp only [← hX, ← hW] at m17 mb ⊢
                rw [hX] at mb
                have hb17 := below_step hbb mb
                have HO17 := HO.out.below mb (Nat.le_refl _)
                have HL17 := HL.out.below mb (Nat.le_refl _)
                obtain ⟨xo17, hxo⟩ : ∃ v, v = Value.slice qa na qp := ⟨_, rfl⟩
                obtain ⟨xl17, hxl⟩ : ∃ v, v = Value.slice qb nb qq := ⟨_, rfl⟩
                simp only [← hxo, ← hxl] at HO17 HL17 m17 ⊢
                clear hX hW mb hbb HO HL hxo hxl
                have RX17 : Hid (∀ V, Below W17.heap.size W17 V → V.heap[X17]? = some (.cells #[.int .u64 gc', .int .u32 epc', .int .u64 lc', .int .u64 vc', xo17, xl17] 26 (0, 0))) := Lib.hid (fun V h => (h.block _ (lt_of_row m17)).trans m17)
                have SO17 : Hid (Sl W17 xo17 odc') := Lib.hid HO17
                have SN17 : Hid (Sl W17 xl17 lnc') := Lib.hid HL17
                clear m17 HO17 HL17
                clear h6
                have f17 := Below.refl W17.heap.size W17
                go_wp2_with fail
                obtain ⟨x0, x1, x2, x3, x4, x5⟩ := cells6 (RX17.out _ f17)
                have X0r := cell_regrown x0
                have X1r := cell_regrown x1
                have X2r := cell_regrown x2
                have X3r := cell_regrown x3
                have X4r := cell_regrown x4
                have X5r := cell_regrown x5
                clear x0 x1 x2 x3 x4 x5
                obtain ⟨y0, y1, y2, y3, y4, y5⟩ := cells6 (RXc2.out _ hb17)
                have Y0r := cell_regrown y0
                have Y1r := cell_regrown y1
                have Y2r := cell_regrown y2
                have Y3r := cell_regrown y3
                have Y4r := cell_regrown y4
                have Y5r := cell_regrown y5
                clear y0 y1 y2 y3 y4 y5
                have s1 := Lib.hid (SO17.out.below f17 (Nat.le_refl _)).regrown
                have t1 := Lib.hid (SN17.out.below f17 (Nat.le_refl _)).regrown
                have s2 := Lib.hid (SOc2.out.below hb17 (Nat.le_refl _)).regrown
                have t2 := Lib.hid (SNc2.out.below hb17 (Nat.le_refl _)).regrown
                have TT := Lib.hid (below_step PB2.out hb17)
                clear f17 hb17
                refine Loose.wp_region_quiet_fast (by kernel_rfl) (by kernel_rfl) ?_
                (try simp only [List.append_eq, List.cons_append, List.nil_append])
                repeat (go_big_quiet_step (fail))
                go_big_quiet_step ((go_at_call 12; exact Calls.regrown_of (Ref_val (Ck.mk gc' epc' lc' vc' odc' lnc') xo17 xl17 _ (s1.out _ _) (t1.out _ _))))
                repeat (go_big_quiet_step (fail))
                go_big_quiet_step ((go_at_call 12; exact Calls.regrown_of (Ref_val (Ck.mk gc' epc' lc' vc' odc' lnc') uoc ulc _ (s2.out _ _) (t2.out _ _))))
                repeat (go_big_quiet_step (fail))
                go_big_quiet_step ((go_at_call 19; exact Calls.regrown_of (Same_any (Ck.mk gc' epc' lc' vc' odc' lnc') (Ck.mk gc' epc' lc' vc' odc' lnc') xo17 xl17 uoc ulc _ KCc.out (s1.out _ _) (t1.out _ _) (s2.out _ _) (t2.out _ _) true (Lib.hid (sameB_refl _).symm))))
                repeat (go_big_quiet_step (fail))
                go_big_quiet_step ((go_at_call 20; exact Calls.regrown_of (fixed_val _)))
                repeat (go_big_quiet_step (fail))
                refine wpQuiet_nil ?_
                intro _ hw'
                obtain ⟨⟨dq, osq⟩, hw''⟩ := hw'
                subst hw''
                go_wp2_with fail
                go_ret
                exact ⟨rfl, below_step TT.out (below_regrown _ dq osq)⟩
              · have e1 := fun V => Best_val m zb V
                obtain ⟨q1, q2, q3⟩ := best_torn (Ck.mk gb' epb' lb' vb' odb' lnb') KCb.out HAb.out m zb Hzb.out (fun hok => torn zs (Ck.mk gc' epc' lc' vc' odc' lnc') gb' HSS.out (by rw [(HZS.out.trans Hza.out)]; exact torn_old (Ck.mk ga' epa' la' va' oda' lna') gb' KCa.out HAa.out (show ga' < gb' by omega)) KCc.out HAc.out k hk128 m HML.out (fun e => hme (e.trans Hzc.out.symm)) hok)
                rw [q1, q2, q3] at e1
                simp only [Ck.val] at e1
                have E1 := Lib.hid e1
                have qm : (m.toList == zc.toList) = false := beq_eq_false_iff_ne.2 (fun e => hme (toList_inj e))
                have HME := Lib.hid hme
                clear e1 q1 q2 q3 hme
                refine (E1.out _).mono ?_; rintro e w17 ⟨⟨xo17, xl17, rfl, ho, hl⟩, hb⟩
                obtain ⟨qa, qp, rfl⟩ := ho.form
                obtain ⟨qb, qq, rfl⟩ := hl.form
                obtain ⟨na, hna⟩ : ∃ m, m = (odb' : List Int).length := ⟨_, rfl⟩
                obtain ⟨nb, hnb⟩ : ∃ m, m = (lnb' : List Int).length := ⟨_, rfl⟩
                replace ho : Sl w17 (.slice qa na qp) odb' := by rw [hna]; exact ho
                replace hl : Sl w17 (.slice qb nb qq) lnb' := by rw [hnb]; exact hl
                have hbb := below_step h6 hb
                clear hb
                have HO := Lib.hid ho
                have HL := Lib.hid hl
                clear ho hl
                simp only [← hna, ← hnb]
                clear hna hnb
                go_wp2_with fail
                obtain ⟨X17, hX⟩ : ∃ x, x = w17.heap.size := ⟨_, rfl⟩
                have m17 := heap_alloc_new w17 (.cells #[.int .u64 gb', .int .u32 epb', .int .u64 lb', .int .u64 vb', .slice qa na qp, .slice qb nb qq] 26)
                have mb := (Below.refl w17.heap.size w17).alloc (Nat.le_refl _) (.cells #[.int .u64 gb', .int .u32 epb', .int .u64 lb', .int .u64 vb', .slice qa na qp, .slice qb nb qq] 26)
                obtain ⟨W17, hW⟩ : ∃ x, x = w17.alloc (.cells #[.int .u64 gb', .int .u32 epb', .int .u64 lb', .int .u64 vb', .slice qa na qp, .slice qb nb qq] 26) := ⟨_, rfl⟩
                simp only [← hX, ← hW] at m17 mb ⊢
                rw [hX] at mb
                have hb17 := below_step hbb mb
                have HO17 := HO.out.below mb (Nat.le_refl _)
                have HL17 := HL.out.below mb (Nat.le_refl _)
                obtain ⟨xo17, hxo⟩ : ∃ v, v = Value.slice qa na qp := ⟨_, rfl⟩
                obtain ⟨xl17, hxl⟩ : ∃ v, v = Value.slice qb nb qq := ⟨_, rfl⟩
                simp only [← hxo, ← hxl] at HO17 HL17 m17 ⊢
                clear hX hW mb hbb HO HL hxo hxl
                have RX17 : Hid (∀ V, Below W17.heap.size W17 V → V.heap[X17]? = some (.cells #[.int .u64 gb', .int .u32 epb', .int .u64 lb', .int .u64 vb', xo17, xl17] 26 (0, 0))) := Lib.hid (fun V h => (h.block _ (lt_of_row m17)).trans m17)
                have SO17 : Hid (Sl W17 xo17 odb') := Lib.hid HO17
                have SN17 : Hid (Sl W17 xl17 lnb') := Lib.hid HL17
                clear m17 HO17 HL17
                clear h6
                have f17 := Below.refl W17.heap.size W17
                go_wp2_with fail
                obtain ⟨x0, x1, x2, x3, x4, x5⟩ := cells6 (RX17.out _ f17)
                have X0r := cell_regrown x0
                have X1r := cell_regrown x1
                have X2r := cell_regrown x2
                have X3r := cell_regrown x3
                have X4r := cell_regrown x4
                have X5r := cell_regrown x5
                clear x0 x1 x2 x3 x4 x5
                obtain ⟨y0, y1, y2, y3, y4, y5⟩ := cells6 (RXb2.out _ hb17)
                have Y0r := cell_regrown y0
                have Y1r := cell_regrown y1
                have Y2r := cell_regrown y2
                have Y3r := cell_regrown y3
                have Y4r := cell_regrown y4
                have Y5r := cell_regrown y5
                clear y0 y1 y2 y3 y4 y5
                have s1 := Lib.hid (SO17.out.below f17 (Nat.le_refl _)).regrown
                have t1 := Lib.hid (SN17.out.below f17 (Nat.le_refl _)).regrown
                have s2 := Lib.hid (SOb2.out.below hb17 (Nat.le_refl _)).regrown
                have t2 := Lib.hid (SNb2.out.below hb17 (Nat.le_refl _)).regrown
                have TT := Lib.hid (below_step PB2.out hb17)
                clear f17 hb17
                refine Loose.wp_region_quiet_fast (by kernel_rfl) (by kernel_rfl) ?_
                (try simp only [List.append_eq, List.cons_append, List.nil_append])
                repeat (go_big_quiet_step (fail))
                go_big_quiet_step ((go_at_call 12; exact Calls.regrown_of (Ref_val (Ck.mk gb' epb' lb' vb' odb' lnb') xo17 xl17 _ (s1.out _ _) (t1.out _ _))))
                repeat (go_big_quiet_step (fail))
                go_big_quiet_step ((go_at_call 12; exact Calls.regrown_of (Ref_val (Ck.mk gb' epb' lb' vb' odb' lnb') uob ulb _ (s2.out _ _) (t2.out _ _))))
                repeat (go_big_quiet_step (fail))
                go_big_quiet_step ((go_at_call 19; exact Calls.regrown_of (Same_any (Ck.mk gb' epb' lb' vb' odb' lnb') (Ck.mk gb' epb' lb' vb' odb' lnb') xo17 xl17 uob ulb _ KCb.out (s1.out _ _) (t1.out _ _) (s2.out _ _) (t2.out _ _) true (Lib.hid (sameB_refl _).symm))))
                repeat (go_big_quiet_step (fail))
                go_big_quiet_step ((go_at_call 20; exact Calls.regrown_of (fixed_val _)))
                repeat (go_big_quiet_step (fail))
                refine wpQuiet_nil ?_
                intro _ hw'
                obtain ⟨⟨dq, osq⟩, hw''⟩ := hw'
                subst hw''
                go_wp2_with fail
                go_ret
                exact ⟨rfl, below_step TT.out (below_regrown _ dq osq)⟩
        · have HAc := Lib.hid hAc
          clear hAc
          have h0 := Below.refl W2.heap.size W2
          obtain ⟨z0, z1, z2, z3, z4, z5⟩ := cells6 (RXa2.out _ h0)
          go_wp2_with fail
          clear z0 z1 z2 z3 z4 z5
          refine (Encode_val (Ck.mk ga' epa' la' va' oda' lna') uoa ula _ KCa.out (SOa2.out.below h0 (Nat.le_refl _)) (SNa2.out.below h0 (Nat.le_refl _)) za 0 Hza (Lib.hid (if_pos HAa.out).symm)).mono ?_; rintro e w3 ⟨rfl, h3⟩
          obtain ⟨z0, z1, z2, z3, z4, z5⟩ := cells6 (RXb2.out _ h3)
          go_wp2_with fail
          clear z0 z1 z2 z3 z4 z5
          refine (Encode_val (Ck.mk gb' epb' lb' vb' odb' lnb') uob ulb _ KCb.out (SOb2.out.below h3 (Nat.le_refl _)) (SNb2.out.below h3 (Nat.le_refl _)) zb 0 Hzb (Lib.hid (if_pos HAb.out).symm)).mono ?_; rintro e w4 ⟨rfl, hb⟩
          have h4 := below_step h3 hb
          clear hb h3
          obtain ⟨z0, z1, z2, z3, z4, z5⟩ := cells6 (RXc2.out _ h4)
          go_wp2_with fail
          clear z0 z1 z2 z3 z4 z5
          refine (Encode_val (Ck.mk gc' epc' lc' vc' odc' lnc') uoc ulc _ KCc.out (SOc2.out.below h4 (Nat.le_refl _)) (SNc2.out.below h4 (Nat.le_refl _)) ⟨#[]⟩ 5 (Lib.hid (if_neg HAc.out).symm) (Lib.hid (if_neg HAc.out).symm)).mono ?_; rintro e w5 ⟨rfl, hb⟩
          have h5 := below_step h4 hb
          clear hb h4 h0
          obtain ⟨a0, a1, a2, a3, a4, a5⟩ := cells6 (RXa2.out _ h5)
          obtain ⟨b0, b1, b2, b3, b4, b5⟩ := cells6 (RXb2.out _ h5)
          obtain ⟨c0, c1, c2, c3, c4, c5⟩ := cells6 (RXc2.out _ h5)
          clear a1 a2 a3 a4 a5 b1 b2 b3 b4 b5 c1 c2 c3 c4 c5
          obtain ⟨zs, hzs⟩ : ∃ z, z = za := ⟨_, rfl⟩
          have hss : zs.size = 128 := by rw [hzs, Hza.out]; exact out_size _ HAa.out
          have qs : ((zs.size : Int) != 128) = false := by rw [bne, beq_iff_eq.2 (show (zs.size : Int) = 128 by omega)]; rfl
          have HSS := Lib.hid hss
          clear hss
          have HZS := Lib.hid hzs
          rw [← hzs]
          clear hzs
          go_wp2_with fail
          refine (fixed_val _).mono ?_; rintro e w6 ⟨rfl, h6⟩
          go_wp2_with fail
          go_ret
          exact ⟨rfl, below_step PB2.out (below_step h5 h6)⟩
      · have HAa := Lib.hid hAa
        clear hAa
        obtain ⟨za, hz⟩ : ∃ z, z = (Ck.mk ga' epa' la' va' oda' lna').out := ⟨_, rfl⟩
        have Hza := Lib.hid hz
        clear hz
        have HAb := Lib.hid hAb
        clear hAb
        by_cases hAc : (Ck.mk gc' epc' lc' vc' odc' lnc').Right
        · have HAc := Lib.hid hAc
          clear hAc
          obtain ⟨zc, hz⟩ : ∃ z, z = (Ck.mk gc' epc' lc' vc' odc' lnc').out := ⟨_, rfl⟩
          have Hzc := Lib.hid hz
          clear hz
          have h0 := Below.refl W2.heap.size W2
          obtain ⟨z0, z1, z2, z3, z4, z5⟩ := cells6 (RXa2.out _ h0)
          go_wp2_with fail
          clear z0 z1 z2 z3 z4 z5
          refine (Encode_val (Ck.mk ga' epa' la' va' oda' lna') uoa ula _ KCa.out (SOa2.out.below h0 (Nat.le_refl _)) (SNa2.out.below h0 (Nat.le_refl _)) za 0 Hza (Lib.hid (if_pos HAa.out).symm)).mono ?_; rintro e w3 ⟨rfl, h3⟩
          obtain ⟨z0, z1, z2, z3, z4, z5⟩ := cells6 (RXb2.out _ h3)
          go_wp2_with fail
          clear z0 z1 z2 z3 z4 z5
          refine (Encode_val (Ck.mk gb' epb' lb' vb' odb' lnb') uob ulb _ KCb.out (SOb2.out.below h3 (Nat.le_refl _)) (SNb2.out.below h3 (Nat.le_refl _)) ⟨#[]⟩ 5 (Lib.hid (if_neg HAb.out).symm) (Lib.hid (if_neg HAb.out).symm)).mono ?_; rintro e w4 ⟨rfl, hb⟩
          have h4 := below_step h3 hb
          clear hb h3
          obtain ⟨z0, z1, z2, z3, z4, z5⟩ := cells6 (RXc2.out _ h4)
          go_wp2_with fail
          clear z0 z1 z2 z3 z4 z5
          refine (Encode_val (Ck.mk gc' epc' lc' vc' odc' lnc') uoc ulc _ KCc.out (SOc2.out.below h4 (Nat.le_refl _)) (SNc2.out.below h4 (Nat.le_refl _)) zc 0 Hzc (Lib.hid (if_pos HAc.out).symm)).mono ?_; rintro e w5 ⟨rfl, hb⟩
          have h5 := below_step h4 hb
          clear hb h4 h0
          obtain ⟨a0, a1, a2, a3, a4, a5⟩ := cells6 (RXa2.out _ h5)
          obtain ⟨b0, b1, b2, b3, b4, b5⟩ := cells6 (RXb2.out _ h5)
          obtain ⟨c0, c1, c2, c3, c4, c5⟩ := cells6 (RXc2.out _ h5)
          clear a1 a2 a3 a4 a5 b1 b2 b3 b4 b5 c1 c2 c3 c4 c5
          obtain ⟨zs, hzs⟩ : ∃ z, z = za := ⟨_, rfl⟩
          have hss : zs.size = 128 := by rw [hzs, Hza.out]; exact out_size _ HAa.out
          have qs : ((zs.size : Int) != 128) = false := by rw [bne, beq_iff_eq.2 (show (zs.size : Int) = 128 by omega)]; rfl
          have HSS := Lib.hid hss
          clear hss
          have hcs : zc.size = 128 := by rw [Hzc.out]; exact out_size _ HAc.out
          have qc : ((zc.size : Int) != 128) = false := by rw [bne, beq_iff_eq.2 (show (zc.size : Int) = 128 by omega)]; rfl
          have qc2 : ((zc.size : Int) == 128) = true := beq_iff_eq.2 (by omega)
          have HCS := Lib.hid hcs
          clear hcs
          have HZS := Lib.hid hzs
          rw [← hzs]
          clear hzs
          go_wp2_with fail
          refine (fixed_val _).mono ?_; rintro e w6 ⟨rfl, h6⟩
          go_wp2_with fail
          go_ret
          exact ⟨rfl, below_step PB2.out (below_step h5 h6)⟩
        · have HAc := Lib.hid hAc
          clear hAc
          have h0 := Below.refl W2.heap.size W2
          obtain ⟨z0, z1, z2, z3, z4, z5⟩ := cells6 (RXa2.out _ h0)
          go_wp2_with fail
          clear z0 z1 z2 z3 z4 z5
          refine (Encode_val (Ck.mk ga' epa' la' va' oda' lna') uoa ula _ KCa.out (SOa2.out.below h0 (Nat.le_refl _)) (SNa2.out.below h0 (Nat.le_refl _)) za 0 Hza (Lib.hid (if_pos HAa.out).symm)).mono ?_; rintro e w3 ⟨rfl, h3⟩
          obtain ⟨z0, z1, z2, z3, z4, z5⟩ := cells6 (RXb2.out _ h3)
          go_wp2_with fail
          clear z0 z1 z2 z3 z4 z5
          refine (Encode_val (Ck.mk gb' epb' lb' vb' odb' lnb') uob ulb _ KCb.out (SOb2.out.below h3 (Nat.le_refl _)) (SNb2.out.below h3 (Nat.le_refl _)) ⟨#[]⟩ 5 (Lib.hid (if_neg HAb.out).symm) (Lib.hid (if_neg HAb.out).symm)).mono ?_; rintro e w4 ⟨rfl, hb⟩
          have h4 := below_step h3 hb
          clear hb h3
          obtain ⟨z0, z1, z2, z3, z4, z5⟩ := cells6 (RXc2.out _ h4)
          go_wp2_with fail
          clear z0 z1 z2 z3 z4 z5
          refine (Encode_val (Ck.mk gc' epc' lc' vc' odc' lnc') uoc ulc _ KCc.out (SOc2.out.below h4 (Nat.le_refl _)) (SNc2.out.below h4 (Nat.le_refl _)) ⟨#[]⟩ 5 (Lib.hid (if_neg HAc.out).symm) (Lib.hid (if_neg HAc.out).symm)).mono ?_; rintro e w5 ⟨rfl, hb⟩
          have h5 := below_step h4 hb
          clear hb h4 h0
          obtain ⟨a0, a1, a2, a3, a4, a5⟩ := cells6 (RXa2.out _ h5)
          obtain ⟨b0, b1, b2, b3, b4, b5⟩ := cells6 (RXb2.out _ h5)
          obtain ⟨c0, c1, c2, c3, c4, c5⟩ := cells6 (RXc2.out _ h5)
          clear a1 a2 a3 a4 a5 b1 b2 b3 b4 b5 c1 c2 c3 c4 c5
          obtain ⟨zs, hzs⟩ : ∃ z, z = za := ⟨_, rfl⟩
          have hss : zs.size = 128 := by rw [hzs, Hza.out]; exact out_size _ HAa.out
          have qs : ((zs.size : Int) != 128) = false := by rw [bne, beq_iff_eq.2 (show (zs.size : Int) = 128 by omega)]; rfl
          have HSS := Lib.hid hss
          clear hss
          have HZS := Lib.hid hzs
          rw [← hzs]
          clear hzs
          go_wp2_with fail
          refine (fixed_val _).mono ?_; rintro e w6 ⟨rfl, h6⟩
          go_wp2_with fail
          go_ret
          exact ⟨rfl, below_step PB2.out (below_step h5 h6)⟩
    · by_cases hAb : (Ck.mk gb' epb' lb' vb' odb' lnb').Right
      · have HAa := Lib.hid hAa
        clear hAa
        have HAb := Lib.hid hAb
        clear hAb
        obtain ⟨zb, hz⟩ : ∃ z, z = (Ck.mk gb' epb' lb' vb' odb' lnb').out := ⟨_, rfl⟩
        have Hzb := Lib.hid hz
        clear hz
        by_cases hAc : (Ck.mk gc' epc' lc' vc' odc' lnc').Right
        · have HAc := Lib.hid hAc
          clear hAc
          obtain ⟨zc, hz⟩ : ∃ z, z = (Ck.mk gc' epc' lc' vc' odc' lnc').out := ⟨_, rfl⟩
          have Hzc := Lib.hid hz
          clear hz
          by_cases hcb : (gc' : Int) ≤ (gb' : Int)
          · have h0 := Below.refl W2.heap.size W2
            obtain ⟨z0, z1, z2, z3, z4, z5⟩ := cells6 (RXa2.out _ h0)
            go_wp2_with fail
            clear z0 z1 z2 z3 z4 z5
            refine (Encode_val (Ck.mk ga' epa' la' va' oda' lna') uoa ula _ KCa.out (SOa2.out.below h0 (Nat.le_refl _)) (SNa2.out.below h0 (Nat.le_refl _)) ⟨#[]⟩ 5 (Lib.hid (if_neg HAa.out).symm) (Lib.hid (if_neg HAa.out).symm)).mono ?_; rintro e w3 ⟨rfl, h3⟩
            obtain ⟨z0, z1, z2, z3, z4, z5⟩ := cells6 (RXb2.out _ h3)
            go_wp2_with fail
            clear z0 z1 z2 z3 z4 z5
            refine (Encode_val (Ck.mk gb' epb' lb' vb' odb' lnb') uob ulb _ KCb.out (SOb2.out.below h3 (Nat.le_refl _)) (SNb2.out.below h3 (Nat.le_refl _)) zb 0 Hzb (Lib.hid (if_pos HAb.out).symm)).mono ?_; rintro e w4 ⟨rfl, hb⟩
            have h4 := below_step h3 hb
            clear hb h3
            obtain ⟨z0, z1, z2, z3, z4, z5⟩ := cells6 (RXc2.out _ h4)
            go_wp2_with fail
            clear z0 z1 z2 z3 z4 z5
            refine (Encode_val (Ck.mk gc' epc' lc' vc' odc' lnc') uoc ulc _ KCc.out (SOc2.out.below h4 (Nat.le_refl _)) (SNc2.out.below h4 (Nat.le_refl _)) zc 0 Hzc (Lib.hid (if_pos HAc.out).symm)).mono ?_; rintro e w5 ⟨rfl, hb⟩
            have h5 := below_step h4 hb
            clear hb h4 h0
            obtain ⟨a0, a1, a2, a3, a4, a5⟩ := cells6 (RXa2.out _ h5)
            obtain ⟨b0, b1, b2, b3, b4, b5⟩ := cells6 (RXb2.out _ h5)
            obtain ⟨c0, c1, c2, c3, c4, c5⟩ := cells6 (RXc2.out _ h5)
            clear a1 a2 a3 a4 a5 b1 b2 b3 b4 b5 c1 c2 c3 c4 c5
            obtain ⟨zs, hzs⟩ : ∃ z, z = zeros128 := ⟨_, rfl⟩
            have hss : zs.size = 128 := by rw [hzs]; rfl
            have qs : ((zs.size : Int) != 128) = false := by rw [bne, beq_iff_eq.2 (show (zs.size : Int) = 128 by omega)]; rfl
            have HSS := Lib.hid hss
            clear hss
            have hcs : zc.size = 128 := by rw [Hzc.out]; exact out_size _ HAc.out
            have qc : ((zc.size : Int) != 128) = false := by rw [bne, beq_iff_eq.2 (show (zc.size : Int) = 128 by omega)]; rfl
            have qc2 : ((zc.size : Int) == 128) = true := beq_iff_eq.2 (by omega)
            have HCS := Lib.hid hcs
            clear hcs
            have HZS := Lib.hid hzs
            clear hzs
            go_wp2_with fail
            refine (Zero_val _ zs HZS).mono ?_; rintro e wz ⟨rfl, rfl⟩
            go_wp2_with fail
            refine (fixed_val _).mono ?_; rintro e w6 ⟨rfl, h6⟩
            go_wp2_with fail
            go_ret
            exact ⟨rfl, below_step PB2.out (below_step h5 h6)⟩
          · have h0 := Below.refl W2.heap.size W2
            obtain ⟨z0, z1, z2, z3, z4, z5⟩ := cells6 (RXa2.out _ h0)
            go_wp2_with fail
            clear z0 z1 z2 z3 z4 z5
            refine (Encode_val (Ck.mk ga' epa' la' va' oda' lna') uoa ula _ KCa.out (SOa2.out.below h0 (Nat.le_refl _)) (SNa2.out.below h0 (Nat.le_refl _)) ⟨#[]⟩ 5 (Lib.hid (if_neg HAa.out).symm) (Lib.hid (if_neg HAa.out).symm)).mono ?_; rintro e w3 ⟨rfl, h3⟩
            obtain ⟨z0, z1, z2, z3, z4, z5⟩ := cells6 (RXb2.out _ h3)
            go_wp2_with fail
            clear z0 z1 z2 z3 z4 z5
            refine (Encode_val (Ck.mk gb' epb' lb' vb' odb' lnb') uob ulb _ KCb.out (SOb2.out.below h3 (Nat.le_refl _)) (SNb2.out.below h3 (Nat.le_refl _)) zb 0 Hzb (Lib.hid (if_pos HAb.out).symm)).mono ?_; rintro e w4 ⟨rfl, hb⟩
            have h4 := below_step h3 hb
            clear hb h3
            obtain ⟨z0, z1, z2, z3, z4, z5⟩ := cells6 (RXc2.out _ h4)
            go_wp2_with fail
            clear z0 z1 z2 z3 z4 z5
            refine (Encode_val (Ck.mk gc' epc' lc' vc' odc' lnc') uoc ulc _ KCc.out (SOc2.out.below h4 (Nat.le_refl _)) (SNc2.out.below h4 (Nat.le_refl _)) zc 0 Hzc (Lib.hid (if_pos HAc.out).symm)).mono ?_; rintro e w5 ⟨rfl, hb⟩
            have h5 := below_step h4 hb
            clear hb h4 h0
            obtain ⟨a0, a1, a2, a3, a4, a5⟩ := cells6 (RXa2.out _ h5)
            obtain ⟨b0, b1, b2, b3, b4, b5⟩ := cells6 (RXb2.out _ h5)
            obtain ⟨c0, c1, c2, c3, c4, c5⟩ := cells6 (RXc2.out _ h5)
            clear a1 a2 a3 a4 a5 b1 b2 b3 b4 b5 c1 c2 c3 c4 c5
            obtain ⟨zs, hzs⟩ : ∃ z, z = zeros128 := ⟨_, rfl⟩
            have hss : zs.size = 128 := by rw [hzs]; rfl
            have qs : ((zs.size : Int) != 128) = false := by rw [bne, beq_iff_eq.2 (show (zs.size : Int) = 128 by omega)]; rfl
            have HSS := Lib.hid hss
            clear hss
            have hcs : zc.size = 128 := by rw [Hzc.out]; exact out_size _ HAc.out
            have qc : ((zc.size : Int) != 128) = false := by rw [bne, beq_iff_eq.2 (show (zc.size : Int) = 128 by omega)]; rfl
            have qc2 : ((zc.size : Int) == 128) = true := beq_iff_eq.2 (by omega)
            have HCS := Lib.hid hcs
            clear hcs
            have HZS := Lib.hid hzs
            clear hzs
            go_wp2_with fail
            refine (Zero_val _ zs HZS).mono ?_; rintro e wz ⟨rfl, rfl⟩
            go_wp2_with fail
            have hcs := HCS.out
            have hss := HSS.out
            obtain ⟨m, hm⟩ : ∃ m, m = zc.extract 0 k ++ zs.extract k zs.size := ⟨_, rfl⟩
            have hml : m.data.toList = (Ck.mk gc' epc' lc' vc' odc' lnc').out.data.toList.take k ++ zs.data.toList.drop k := by rw [hm, mixed_list zc zs k hss hk128 hcs, Hzc.out]
            have sz1 : ¬ (zc.size : Int) < (k : Int) := by omega
            have sz2 : ¬ (zs.size : Int) < (k : Int) := by omega
            have sz3 : (9223372036854775807 < (zc.extract 0 k).size + (zs.extract k zs.size).size) = False := eq_false (by rw [ByteArray.size_extract, ByteArray.size_extract]; omega)
            have sz4 : (9223372036854775807 < min k zc.size + (zs.size - k)) = False := eq_false (by omega)
            have sz5 : (9223372036854775807 < min k zc.size + (min zs.size zs.size - k)) = False := eq_false (by omega)
            have HM := Lib.hid hm
            have HML := Lib.hid hml
            clear hcs hss hm hml
            go_wp2_with fail
            refine Loose.wp_region_quiet_fast (by kernel_rfl) (by kernel_rfl) ?_
            (try simp only [List.append_eq, List.cons_append, List.nil_append])
            repeat (go_big_quiet_step (fail))
            refine wpQuiet_nil ?_
            intro _ hw'
            obtain ⟨⟨dq, osq⟩, hw''⟩ := hw'
            subst hw''
            simp only [← HM.out]
            obtain ⟨W6, hW6⟩ : ∃ z, z = Sort.grow (redrawn w5 dq) osq := ⟨_, rfl⟩
            have h6 := below_step h5 (below_regrown w5 dq osq)
            rw [← hW6] at h6 ⊢
            clear hW6 dq osq h5 a0 b0 c0 sz1 sz2 sz3 sz4 sz5 qs qc qc2
            go_wp2_with fail
            by_cases hme : m = zc
            · have e1 := fun V => Best_val m zb V
              obtain ⟨q1, q2, q3⟩ := best_whole (Ck.mk gb' epb' lb' vb' odb' lnb') (Ck.mk gc' epc' lc' vc' odc' lnc') KCb.out KCc.out HAb.out HAc.out (show gb' < gc' by omega) m zb (hme.trans Hzc.out) Hzb.out
              rw [q1, q2, q3] at e1
              simp only [Ck.val] at e1
              have E1 := Lib.hid e1
              have qm : (m.toList == zc.toList) = true := beq_iff_eq.2 (by rw [hme])
              have HME := Lib.hid hme
              clear e1 q1 q2 q3 hme
              refine (E1.out _).mono ?_; rintro e w17 ⟨⟨xo17, xl17, rfl, ho, hl⟩, hb⟩
              obtain ⟨qa, qp, rfl⟩ := ho.form
              obtain ⟨qb, qq, rfl⟩ := hl.form
              obtain ⟨na, hna⟩ : ∃ m, m = (odc' : List Int).length := ⟨_, rfl⟩
              obtain ⟨nb, hnb⟩ : ∃ m, m = (lnc' : List Int).length := ⟨_, rfl⟩
              replace ho : Sl w17 (.slice qa na qp) odc' := by rw [hna]; exact ho
              replace hl : Sl w17 (.slice qb nb qq) lnc' := by rw [hnb]; exact hl
              have hbb := below_step h6 hb
              clear hb
              have HO := Lib.hid ho
              have HL := Lib.hid hl
              clear ho hl
              simp only [← hna, ← hnb]
              clear hna hnb
              go_wp2_with fail
              obtain ⟨X17, hX⟩ : ∃ x, x = w17.heap.size := ⟨_, rfl⟩
              have m17 := heap_alloc_new w17 (.cells #[.int .u64 gc', .int .u32 epc', .int .u64 lc', .int .u64 vc', .slice qa na qp, .slice qb nb qq] 26)
              have mb := (Below.refl w17.heap.size w17).alloc (Nat.le_refl _) (.cells #[.int .u64 gc', .int .u32 epc', .int .u64 lc', .int .u64 vc', .slice qa na qp, .slice qb nb qq] 26)
              obtain ⟨W17, hW⟩ : ∃ x, x = w17.alloc (.cells #[.int .u64 gc', .int .u32 epc', .int .u64 lc', .int .u64 vc', .slice qa na qp, .slice qb nb qq] 26) := ⟨_, rfl⟩
              simp only [← hX, ← hW] at m17 mb ⊢
              rw [hX] at mb
              have hb17 := below_step hbb mb
              have HO17 := HO.out.below mb (Nat.le_refl _)
              have HL17 := HL.out.below mb (Nat.le_refl _)
              obtain ⟨xo17, hxo⟩ : ∃ v, v = Value.slice qa na qp := ⟨_, rfl⟩
              obtain ⟨xl17, hxl⟩ : ∃ v, v = Value.slice qb nb qq := ⟨_, rfl⟩
              simp only [← hxo, ← hxl] at HO17 HL17 m17 ⊢
              clear hX hW mb hbb HO HL hxo hxl
              have RX17 : Hid (∀ V, Below W17.heap.size W17 V → V.heap[X17]? = some (.cells #[.int .u64 gc', .int .u32 epc', .int .u64 lc', .int .u64 vc', xo17, xl17] 26 (0, 0))) := Lib.hid (fun V h => (h.block _ (lt_of_row m17)).trans m17)
              have SO17 : Hid (Sl W17 xo17 odc') := Lib.hid HO17
              have SN17 : Hid (Sl W17 xl17 lnc') := Lib.hid HL17
              clear m17 HO17 HL17
              clear h6
              have f17 := Below.refl W17.heap.size W17
              go_wp2_with fail
              obtain ⟨x0, x1, x2, x3, x4, x5⟩ := cells6 (RX17.out _ f17)
              have X0r := cell_regrown x0
              have X1r := cell_regrown x1
              have X2r := cell_regrown x2
              have X3r := cell_regrown x3
              have X4r := cell_regrown x4
              have X5r := cell_regrown x5
              clear x0 x1 x2 x3 x4 x5
              obtain ⟨y0, y1, y2, y3, y4, y5⟩ := cells6 (RXc2.out _ hb17)
              have Y0r := cell_regrown y0
              have Y1r := cell_regrown y1
              have Y2r := cell_regrown y2
              have Y3r := cell_regrown y3
              have Y4r := cell_regrown y4
              have Y5r := cell_regrown y5
              clear y0 y1 y2 y3 y4 y5
              have s1 := Lib.hid (SO17.out.below f17 (Nat.le_refl _)).regrown
              have t1 := Lib.hid (SN17.out.below f17 (Nat.le_refl _)).regrown
              have s2 := Lib.hid (SOc2.out.below hb17 (Nat.le_refl _)).regrown
              have t2 := Lib.hid (SNc2.out.below hb17 (Nat.le_refl _)).regrown
              have TT := Lib.hid (below_step PB2.out hb17)
              clear f17 hb17
              refine Loose.wp_region_quiet_fast (by kernel_rfl) (by kernel_rfl) ?_
              (try simp only [List.append_eq, List.cons_append, List.nil_append])
              repeat (go_big_quiet_step (fail))
              go_big_quiet_step ((go_at_call 12; exact Calls.regrown_of (Ref_val (Ck.mk gc' epc' lc' vc' odc' lnc') xo17 xl17 _ (s1.out _ _) (t1.out _ _))))
              repeat (go_big_quiet_step (fail))
              go_big_quiet_step ((go_at_call 12; exact Calls.regrown_of (Ref_val (Ck.mk gc' epc' lc' vc' odc' lnc') uoc ulc _ (s2.out _ _) (t2.out _ _))))
              repeat (go_big_quiet_step (fail))
              go_big_quiet_step ((go_at_call 19; exact Calls.regrown_of (Same_any (Ck.mk gc' epc' lc' vc' odc' lnc') (Ck.mk gc' epc' lc' vc' odc' lnc') xo17 xl17 uoc ulc _ KCc.out (s1.out _ _) (t1.out _ _) (s2.out _ _) (t2.out _ _) true (Lib.hid (sameB_refl _).symm))))
              repeat (go_big_quiet_step (fail))
              go_big_quiet_step ((go_at_call 20; exact Calls.regrown_of (fixed_val _)))
              repeat (go_big_quiet_step (fail))
              refine wpQuiet_nil ?_
              intro _ hw'
              obtain ⟨⟨dq, osq⟩, hw''⟩ := hw'
              subst hw''
              go_wp2_with fail
              go_ret
              exact ⟨rfl, below_step TT.out (below_regrown _ dq osq)⟩
            · have e1 := fun V => Best_val m zb V
              obtain ⟨q1, q2, q3⟩ := best_torn (Ck.mk gb' epb' lb' vb' odb' lnb') KCb.out HAb.out m zb Hzb.out (fun hok => torn zs (Ck.mk gc' epc' lc' vc' odc' lnc') gb' HSS.out (by rw [HZS.out]; exact torn_zero gb' (by have := HAb.out.1; simp only [] at this; omega)) KCc.out HAc.out k hk128 m HML.out (fun e => hme (e.trans Hzc.out.symm)) hok)
              rw [q1, q2, q3] at e1
              simp only [Ck.val] at e1
              have E1 := Lib.hid e1
              have qm : (m.toList == zc.toList) = false := beq_eq_false_iff_ne.2 (fun e => hme (toList_inj e))
              have HME := Lib.hid hme
              clear e1 q1 q2 q3 hme
              refine (E1.out _).mono ?_; rintro e w17 ⟨⟨xo17, xl17, rfl, ho, hl⟩, hb⟩
              obtain ⟨qa, qp, rfl⟩ := ho.form
              obtain ⟨qb, qq, rfl⟩ := hl.form
              obtain ⟨na, hna⟩ : ∃ m, m = (odb' : List Int).length := ⟨_, rfl⟩
              obtain ⟨nb, hnb⟩ : ∃ m, m = (lnb' : List Int).length := ⟨_, rfl⟩
              replace ho : Sl w17 (.slice qa na qp) odb' := by rw [hna]; exact ho
              replace hl : Sl w17 (.slice qb nb qq) lnb' := by rw [hnb]; exact hl
              have hbb := below_step h6 hb
              clear hb
              have HO := Lib.hid ho
              have HL := Lib.hid hl
              clear ho hl
              simp only [← hna, ← hnb]
              clear hna hnb
              go_wp2_with fail
              obtain ⟨X17, hX⟩ : ∃ x, x = w17.heap.size := ⟨_, rfl⟩
              have m17 := heap_alloc_new w17 (.cells #[.int .u64 gb', .int .u32 epb', .int .u64 lb', .int .u64 vb', .slice qa na qp, .slice qb nb qq] 26)
              have mb := (Below.refl w17.heap.size w17).alloc (Nat.le_refl _) (.cells #[.int .u64 gb', .int .u32 epb', .int .u64 lb', .int .u64 vb', .slice qa na qp, .slice qb nb qq] 26)
              obtain ⟨W17, hW⟩ : ∃ x, x = w17.alloc (.cells #[.int .u64 gb', .int .u32 epb', .int .u64 lb', .int .u64 vb', .slice qa na qp, .slice qb nb qq] 26) := ⟨_, rfl⟩
              simp only [← hX, ← hW] at m17 mb ⊢
              rw [hX] at mb
              have hb17 := below_step hbb mb
              have HO17 := HO.out.below mb (Nat.le_refl _)
              have HL17 := HL.out.below mb (Nat.le_refl _)
              obtain ⟨xo17, hxo⟩ : ∃ v, v = Value.slice qa na qp := ⟨_, rfl⟩
              obtain ⟨xl17, hxl⟩ : ∃ v, v = Value.slice qb nb qq := ⟨_, rfl⟩
              simp only [← hxo, ← hxl] at HO17 HL17 m17 ⊢
              clear hX hW mb hbb HO HL hxo hxl
              have RX17 : Hid (∀ V, Below W17.heap.size W17 V → V.heap[X17]? = some (.cells #[.int .u64 gb', .int .u32 epb', .int .u64 lb', .int .u64 vb', xo17, xl17] 26 (0, 0))) := Lib.hid (fun V h => (h.block _ (lt_of_row m17)).trans m17)
              have SO17 : Hid (Sl W17 xo17 odb') := Lib.hid HO17
              have SN17 : Hid (Sl W17 xl17 lnb') := Lib.hid HL17
              clear m17 HO17 HL17
              clear h6
              have f17 := Below.refl W17.heap.size W17
              go_wp2_with fail
              obtain ⟨x0, x1, x2, x3, x4, x5⟩ := cells6 (RX17.out _ f17)
              have X0r := cell_regrown x0
              have X1r := cell_regrown x1
              have X2r := cell_regrown x2
              have X3r := cell_regrown x3
              have X4r := cell_regrown x4
              have X5r := cell_regrown x5
              clear x0 x1 x2 x3 x4 x5
              obtain ⟨y0, y1, y2, y3, y4, y5⟩ := cells6 (RXb2.out _ hb17)
              have Y0r := cell_regrown y0
              have Y1r := cell_regrown y1
              have Y2r := cell_regrown y2
              have Y3r := cell_regrown y3
              have Y4r := cell_regrown y4
              have Y5r := cell_regrown y5
              clear y0 y1 y2 y3 y4 y5
              have s1 := Lib.hid (SO17.out.below f17 (Nat.le_refl _)).regrown
              have t1 := Lib.hid (SN17.out.below f17 (Nat.le_refl _)).regrown
              have s2 := Lib.hid (SOb2.out.below hb17 (Nat.le_refl _)).regrown
              have t2 := Lib.hid (SNb2.out.below hb17 (Nat.le_refl _)).regrown
              have TT := Lib.hid (below_step PB2.out hb17)
              clear f17 hb17
              refine Loose.wp_region_quiet_fast (by kernel_rfl) (by kernel_rfl) ?_
              (try simp only [List.append_eq, List.cons_append, List.nil_append])
              repeat (go_big_quiet_step (fail))
              go_big_quiet_step ((go_at_call 12; exact Calls.regrown_of (Ref_val (Ck.mk gb' epb' lb' vb' odb' lnb') xo17 xl17 _ (s1.out _ _) (t1.out _ _))))
              repeat (go_big_quiet_step (fail))
              go_big_quiet_step ((go_at_call 12; exact Calls.regrown_of (Ref_val (Ck.mk gb' epb' lb' vb' odb' lnb') uob ulb _ (s2.out _ _) (t2.out _ _))))
              repeat (go_big_quiet_step (fail))
              go_big_quiet_step ((go_at_call 19; exact Calls.regrown_of (Same_any (Ck.mk gb' epb' lb' vb' odb' lnb') (Ck.mk gb' epb' lb' vb' odb' lnb') xo17 xl17 uob ulb _ KCb.out (s1.out _ _) (t1.out _ _) (s2.out _ _) (t2.out _ _) true (Lib.hid (sameB_refl _).symm))))
              repeat (go_big_quiet_step (fail))
              go_big_quiet_step ((go_at_call 20; exact Calls.regrown_of (fixed_val _)))
              repeat (go_big_quiet_step (fail))
              refine wpQuiet_nil ?_
              intro _ hw'
              obtain ⟨⟨dq, osq⟩, hw''⟩ := hw'
              subst hw''
              go_wp2_with fail
              go_ret
              exact ⟨rfl, below_step TT.out (below_regrown _ dq osq)⟩
        · have HAc := Lib.hid hAc
          clear hAc
          have h0 := Below.refl W2.heap.size W2
          obtain ⟨z0, z1, z2, z3, z4, z5⟩ := cells6 (RXa2.out _ h0)
          go_wp2_with fail
          clear z0 z1 z2 z3 z4 z5
          refine (Encode_val (Ck.mk ga' epa' la' va' oda' lna') uoa ula _ KCa.out (SOa2.out.below h0 (Nat.le_refl _)) (SNa2.out.below h0 (Nat.le_refl _)) ⟨#[]⟩ 5 (Lib.hid (if_neg HAa.out).symm) (Lib.hid (if_neg HAa.out).symm)).mono ?_; rintro e w3 ⟨rfl, h3⟩
          obtain ⟨z0, z1, z2, z3, z4, z5⟩ := cells6 (RXb2.out _ h3)
          go_wp2_with fail
          clear z0 z1 z2 z3 z4 z5
          refine (Encode_val (Ck.mk gb' epb' lb' vb' odb' lnb') uob ulb _ KCb.out (SOb2.out.below h3 (Nat.le_refl _)) (SNb2.out.below h3 (Nat.le_refl _)) zb 0 Hzb (Lib.hid (if_pos HAb.out).symm)).mono ?_; rintro e w4 ⟨rfl, hb⟩
          have h4 := below_step h3 hb
          clear hb h3
          obtain ⟨z0, z1, z2, z3, z4, z5⟩ := cells6 (RXc2.out _ h4)
          go_wp2_with fail
          clear z0 z1 z2 z3 z4 z5
          refine (Encode_val (Ck.mk gc' epc' lc' vc' odc' lnc') uoc ulc _ KCc.out (SOc2.out.below h4 (Nat.le_refl _)) (SNc2.out.below h4 (Nat.le_refl _)) ⟨#[]⟩ 5 (Lib.hid (if_neg HAc.out).symm) (Lib.hid (if_neg HAc.out).symm)).mono ?_; rintro e w5 ⟨rfl, hb⟩
          have h5 := below_step h4 hb
          clear hb h4 h0
          obtain ⟨a0, a1, a2, a3, a4, a5⟩ := cells6 (RXa2.out _ h5)
          obtain ⟨b0, b1, b2, b3, b4, b5⟩ := cells6 (RXb2.out _ h5)
          obtain ⟨c0, c1, c2, c3, c4, c5⟩ := cells6 (RXc2.out _ h5)
          clear a1 a2 a3 a4 a5 b1 b2 b3 b4 b5 c1 c2 c3 c4 c5
          obtain ⟨zs, hzs⟩ : ∃ z, z = zeros128 := ⟨_, rfl⟩
          have hss : zs.size = 128 := by rw [hzs]; rfl
          have qs : ((zs.size : Int) != 128) = false := by rw [bne, beq_iff_eq.2 (show (zs.size : Int) = 128 by omega)]; rfl
          have HSS := Lib.hid hss
          clear hss
          have HZS := Lib.hid hzs
          clear hzs
          go_wp2_with fail
          refine (Zero_val _ zs HZS).mono ?_; rintro e wz ⟨rfl, rfl⟩
          go_wp2_with fail
          refine (fixed_val _).mono ?_; rintro e w6 ⟨rfl, h6⟩
          go_wp2_with fail
          go_ret
          exact ⟨rfl, below_step PB2.out (below_step h5 h6)⟩
      · have HAa := Lib.hid hAa
        clear hAa
        have HAb := Lib.hid hAb
        clear hAb
        by_cases hAc : (Ck.mk gc' epc' lc' vc' odc' lnc').Right
        · have HAc := Lib.hid hAc
          clear hAc
          obtain ⟨zc, hz⟩ : ∃ z, z = (Ck.mk gc' epc' lc' vc' odc' lnc').out := ⟨_, rfl⟩
          have Hzc := Lib.hid hz
          clear hz
          have h0 := Below.refl W2.heap.size W2
          obtain ⟨z0, z1, z2, z3, z4, z5⟩ := cells6 (RXa2.out _ h0)
          go_wp2_with fail
          clear z0 z1 z2 z3 z4 z5
          refine (Encode_val (Ck.mk ga' epa' la' va' oda' lna') uoa ula _ KCa.out (SOa2.out.below h0 (Nat.le_refl _)) (SNa2.out.below h0 (Nat.le_refl _)) ⟨#[]⟩ 5 (Lib.hid (if_neg HAa.out).symm) (Lib.hid (if_neg HAa.out).symm)).mono ?_; rintro e w3 ⟨rfl, h3⟩
          obtain ⟨z0, z1, z2, z3, z4, z5⟩ := cells6 (RXb2.out _ h3)
          go_wp2_with fail
          clear z0 z1 z2 z3 z4 z5
          refine (Encode_val (Ck.mk gb' epb' lb' vb' odb' lnb') uob ulb _ KCb.out (SOb2.out.below h3 (Nat.le_refl _)) (SNb2.out.below h3 (Nat.le_refl _)) ⟨#[]⟩ 5 (Lib.hid (if_neg HAb.out).symm) (Lib.hid (if_neg HAb.out).symm)).mono ?_; rintro e w4 ⟨rfl, hb⟩
          have h4 := below_step h3 hb
          clear hb h3
          obtain ⟨z0, z1, z2, z3, z4, z5⟩ := cells6 (RXc2.out _ h4)
          go_wp2_with fail
          clear z0 z1 z2 z3 z4 z5
          refine (Encode_val (Ck.mk gc' epc' lc' vc' odc' lnc') uoc ulc _ KCc.out (SOc2.out.below h4 (Nat.le_refl _)) (SNc2.out.below h4 (Nat.le_refl _)) zc 0 Hzc (Lib.hid (if_pos HAc.out).symm)).mono ?_; rintro e w5 ⟨rfl, hb⟩
          have h5 := below_step h4 hb
          clear hb h4 h0
          obtain ⟨a0, a1, a2, a3, a4, a5⟩ := cells6 (RXa2.out _ h5)
          obtain ⟨b0, b1, b2, b3, b4, b5⟩ := cells6 (RXb2.out _ h5)
          obtain ⟨c0, c1, c2, c3, c4, c5⟩ := cells6 (RXc2.out _ h5)
          clear a1 a2 a3 a4 a5 b1 b2 b3 b4 b5 c1 c2 c3 c4 c5
          obtain ⟨zs, hzs⟩ : ∃ z, z = zeros128 := ⟨_, rfl⟩
          have hss : zs.size = 128 := by rw [hzs]; rfl
          have qs : ((zs.size : Int) != 128) = false := by rw [bne, beq_iff_eq.2 (show (zs.size : Int) = 128 by omega)]; rfl
          have HSS := Lib.hid hss
          clear hss
          have hcs : zc.size = 128 := by rw [Hzc.out]; exact out_size _ HAc.out
          have qc : ((zc.size : Int) != 128) = false := by rw [bne, beq_iff_eq.2 (show (zc.size : Int) = 128 by omega)]; rfl
          have qc2 : ((zc.size : Int) == 128) = true := beq_iff_eq.2 (by omega)
          have HCS := Lib.hid hcs
          clear hcs
          have HZS := Lib.hid hzs
          clear hzs
          go_wp2_with fail
          refine (Zero_val _ zs HZS).mono ?_; rintro e wz ⟨rfl, rfl⟩
          go_wp2_with fail
          refine (fixed_val _).mono ?_; rintro e w6 ⟨rfl, h6⟩
          go_wp2_with fail
          go_ret
          exact ⟨rfl, below_step PB2.out (below_step h5 h6)⟩
        · have HAc := Lib.hid hAc
          clear hAc
          have h0 := Below.refl W2.heap.size W2
          obtain ⟨z0, z1, z2, z3, z4, z5⟩ := cells6 (RXa2.out _ h0)
          go_wp2_with fail
          clear z0 z1 z2 z3 z4 z5
          refine (Encode_val (Ck.mk ga' epa' la' va' oda' lna') uoa ula _ KCa.out (SOa2.out.below h0 (Nat.le_refl _)) (SNa2.out.below h0 (Nat.le_refl _)) ⟨#[]⟩ 5 (Lib.hid (if_neg HAa.out).symm) (Lib.hid (if_neg HAa.out).symm)).mono ?_; rintro e w3 ⟨rfl, h3⟩
          obtain ⟨z0, z1, z2, z3, z4, z5⟩ := cells6 (RXb2.out _ h3)
          go_wp2_with fail
          clear z0 z1 z2 z3 z4 z5
          refine (Encode_val (Ck.mk gb' epb' lb' vb' odb' lnb') uob ulb _ KCb.out (SOb2.out.below h3 (Nat.le_refl _)) (SNb2.out.below h3 (Nat.le_refl _)) ⟨#[]⟩ 5 (Lib.hid (if_neg HAb.out).symm) (Lib.hid (if_neg HAb.out).symm)).mono ?_; rintro e w4 ⟨rfl, hb⟩
          have h4 := below_step h3 hb
          clear hb h3
          obtain ⟨z0, z1, z2, z3, z4, z5⟩ := cells6 (RXc2.out _ h4)
          go_wp2_with fail
          clear z0 z1 z2 z3 z4 z5
          refine (Encode_val (Ck.mk gc' epc' lc' vc' odc' lnc') uoc ulc _ KCc.out (SOc2.out.below h4 (Nat.le_refl _)) (SNc2.out.below h4 (Nat.le_refl _)) ⟨#[]⟩ 5 (Lib.hid (if_neg HAc.out).symm) (Lib.hid (if_neg HAc.out).symm)).mono ?_; rintro e w5 ⟨rfl, hb⟩
          have h5 := below_step h4 hb
          clear hb h4 h0
          obtain ⟨a0, a1, a2, a3, a4, a5⟩ := cells6 (RXa2.out _ h5)
          obtain ⟨b0, b1, b2, b3, b4, b5⟩ := cells6 (RXb2.out _ h5)
          obtain ⟨c0, c1, c2, c3, c4, c5⟩ := cells6 (RXc2.out _ h5)
          clear a1 a2 a3 a4 a5 b1 b2 b3 b4 b5 c1 c2 c3 c4 c5
          obtain ⟨zs, hzs⟩ : ∃ z, z = zeros128 := ⟨_, rfl⟩
          have hss : zs.size = 128 := by rw [hzs]; rfl
          have qs : ((zs.size : Int) != 128) = false := by rw [bne, beq_iff_eq.2 (show (zs.size : Int) = 128 by omega)]; rfl
          have HSS := Lib.hid hss
          clear hss
          have HZS := Lib.hid hzs
          clear hzs
          go_wp2_with fail
          refine (Zero_val _ zs HZS).mono ?_; rintro e wz ⟨rfl, rfl⟩
          go_wp2_with fail
          refine (fixed_val _).mono ?_; rintro e w6 ⟨rfl, h6⟩
          go_wp2_with fail
          go_ret
          exact ⟨rfl, below_step PB2.out (below_step h5 h6)⟩

  · go_simp
    have s1 := hS0.alloc hS0.size (.cells #[.int .u64 0, .int .u32 0, .int .u64 0, .int .u64 0, .slice none 0 0, .slice none 0 0] 26)
    refine hK.out _ _ s1 (fun _ => ?_)
    clear hK K
    have hrow0 := heap_alloc_new Wd (.cells #[.int .u64 0, .int .u32 0, .int .u64 0, .int .u64 0, .slice none 0 0, .slice none 0 0] 26)
    have hge := hS0.size
    obtain ⟨Ac, hAc⟩ : ∃ x, x = Wd.heap.size := ⟨_, rfl⟩
    refine wpAnyH_ready (rs := [2]) (by kernel_rfl) (by simp) ?_
    refine AllReadyH.cons rfl (fun K hK => ?_) AllReadyH.nil
    go_simp
    refine (CUTc.out _).mono ?_; rintro e w1 ⟨rfl, hb1⟩
    have s2 := below_step s1 hb1
    have hrow := (hb1.block _ (lt_of_row hrow0)).trans hrow0
    (try go_simp)
    refine hK.out _ _ s2 (fun _ => ?_)
    clear hK K
    have pb2 := s2.setRow hge #[.int .u64 gc', .int .u32 epc', .int .u64 lc', .int .u64 vc', .slice pac rc dapc, .slice pbc sc dbpc]
    have hrow2 := setRow_heap _ _ _ #[.int .u64 gc', .int .u32 epc', .int .u64 lc', .int .u64 vc', .slice pac rc dapc, .slice pbc sc dbpc] _ _ hrow
    refine wpAnyH_ready (rs := [6]) (by kernel_rfl) (by simp) ?_
    refine AllReadyH.cons rfl (fun K hK => ?_) AllReadyH.nil
    rw [if_pos (by rfl)]
    refine wp_store_row 26 _ _ rfl _ #[.int .u64 gc', .int .u32 epc', .int .u64 lc', .int .u64 vc', .slice pac rc dapc, .slice pbc sc dbpc] rfl rfl _ _ hrow (by kernel_rfl) rfl ONE.out ?_
    refine hK.out _ _ pb2 (fun _ => ?_)
    clear hK K
    refine wpAnyH_ready (rs := [7]) (by kernel_rfl) (by simp) ?_
    refine AllReadyH.cons rfl (fun K hK => ?_) AllReadyH.nil
    go_simp
    refine hK.out _ _ pb2 (fun _ => ?_)
    clear hK K
    refine wpAnyH_done (by kernel_rfl) ?_ _
    obtain ⟨W2, hW2⟩ : ∃ x, x = w1.setRow Wd.heap.size #[.int .u64 gc', .int .u32 epc', .int .u64 lc', .int .u64 vc', .slice pac rc dapc, .slice pbc sc dbpc] := ⟨_, rfl⟩
    simp only [← hAc] at hW2 pb2 hrow2 ⊢
    rw [← hW2] at pb2 hrow2 ⊢
    clear hrow hrow0 hge hAc s1 s2 hb1 hS0 hW2
    have suc := suc.below pb2 (Nat.le_refl _)
    have slc := slc.below pb2 (Nat.le_refl _)
    obtain ⟨uoc, ho⟩ : ∃ z, z = Value.slice pac rc dapc := ⟨_, rfl⟩
    obtain ⟨ulc, hl⟩ : ∃ z, z = Value.slice pbc sc dbpc := ⟨_, rfl⟩
    simp only [← ho, ← hl] at suc slc hrow2 ⊢
    have RXa2 : Hid (∀ V, Below W2.heap.size W2 V → V.heap[Aa]? = some (.cells #[.int .u64 ga', .int .u32 epa', .int .u64 la', .int .u64 va', uoa, ula] 26 (0, 0))) := Lib.hid (fun V h => RXa.out V (below_step pb2 h))
    have RXb2 : Hid (∀ V, Below W2.heap.size W2 V → V.heap[Ab]? = some (.cells #[.int .u64 gb', .int .u32 epb', .int .u64 lb', .int .u64 vb', uob, ulb] 26 (0, 0))) := Lib.hid (fun V h => RXb.out V (below_step pb2 h))
    have RXc2 : Hid (∀ V, Below W2.heap.size W2 V → V.heap[Ac]? = some (.cells #[.int .u64 gc', .int .u32 epc', .int .u64 lc', .int .u64 vc', uoc, ulc] 26 (0, 0))) := Lib.hid (fun V h => (h.block _ (lt_of_row hrow2)).trans hrow2)
    have SOa2 := Lib.hid (SOa.out.below pb2 (Nat.le_refl _))
    have SNa2 := Lib.hid (SNa.out.below pb2 (Nat.le_refl _))
    have SOb2 := Lib.hid (SOb.out.below pb2 (Nat.le_refl _))
    have SNb2 := Lib.hid (SNb.out.below pb2 (Nat.le_refl _))
    have SOc2 := Lib.hid suc
    have SNc2 := Lib.hid slc
    have PB2 := Lib.hid (below_step PB.out pb2)
    clear ho hl suc slc hrow2 pb2 ONE RXa RXb RXt SOa SNa SOb SNb PB SUc SLc CUTc
    obtain ⟨k, hkk⟩ : ∃ k, k = p % 129 := ⟨_, rfl⟩
    have hk128 : k ≤ 128 := by omega
    have wp : wrap64 (p : Int) = (p : Int) := IntWalk.wrap64_in _ (by omega)
    have rp : (p : Int).tmod 129 = (k : Int) := by rw [hkk]; exact (Int.ofNat_tmod p 129).symm
    have HKK := Lib.hid hkk
    clear hkk
    by_cases hAa : (Ck.mk ga' epa' la' va' oda' lna').Right
    · by_cases hAb : (Ck.mk gb' epb' lb' vb' odb' lnb').Right
      · have HAa := Lib.hid hAa
        clear hAa
        obtain ⟨za, hz⟩ : ∃ z, z = (Ck.mk ga' epa' la' va' oda' lna').out := ⟨_, rfl⟩
        have Hza := Lib.hid hz
        clear hz
        have HAb := Lib.hid hAb
        clear hAb
        obtain ⟨zb, hz⟩ : ∃ z, z = (Ck.mk gb' epb' lb' vb' odb' lnb').out := ⟨_, rfl⟩
        have Hzb := Lib.hid hz
        clear hz
        by_cases hAc : (Ck.mk gc' epc' lc' vc' odc' lnc').Right
        · have HAc := Lib.hid hAc
          clear hAc
          obtain ⟨zc, hz⟩ : ∃ z, z = (Ck.mk gc' epc' lc' vc' odc' lnc').out := ⟨_, rfl⟩
          have Hzc := Lib.hid hz
          clear hz
          by_cases hcb : (gc' : Int) ≤ (gb' : Int)
          · have h0 := Below.refl W2.heap.size W2
            obtain ⟨z0, z1, z2, z3, z4, z5⟩ := cells6 (RXa2.out _ h0)
            go_wp2_with fail
            clear z0 z1 z2 z3 z4 z5
            refine (Encode_val (Ck.mk ga' epa' la' va' oda' lna') uoa ula _ KCa.out (SOa2.out.below h0 (Nat.le_refl _)) (SNa2.out.below h0 (Nat.le_refl _)) za 0 Hza (Lib.hid (if_pos HAa.out).symm)).mono ?_; rintro e w3 ⟨rfl, h3⟩
            obtain ⟨z0, z1, z2, z3, z4, z5⟩ := cells6 (RXb2.out _ h3)
            go_wp2_with fail
            clear z0 z1 z2 z3 z4 z5
            refine (Encode_val (Ck.mk gb' epb' lb' vb' odb' lnb') uob ulb _ KCb.out (SOb2.out.below h3 (Nat.le_refl _)) (SNb2.out.below h3 (Nat.le_refl _)) zb 0 Hzb (Lib.hid (if_pos HAb.out).symm)).mono ?_; rintro e w4 ⟨rfl, hb⟩
            have h4 := below_step h3 hb
            clear hb h3
            obtain ⟨z0, z1, z2, z3, z4, z5⟩ := cells6 (RXc2.out _ h4)
            go_wp2_with fail
            clear z0 z1 z2 z3 z4 z5
            refine (Encode_val (Ck.mk gc' epc' lc' vc' odc' lnc') uoc ulc _ KCc.out (SOc2.out.below h4 (Nat.le_refl _)) (SNc2.out.below h4 (Nat.le_refl _)) zc 0 Hzc (Lib.hid (if_pos HAc.out).symm)).mono ?_; rintro e w5 ⟨rfl, hb⟩
            have h5 := below_step h4 hb
            clear hb h4 h0
            obtain ⟨a0, a1, a2, a3, a4, a5⟩ := cells6 (RXa2.out _ h5)
            obtain ⟨b0, b1, b2, b3, b4, b5⟩ := cells6 (RXb2.out _ h5)
            obtain ⟨c0, c1, c2, c3, c4, c5⟩ := cells6 (RXc2.out _ h5)
            clear a1 a2 a3 a4 a5 b1 b2 b3 b4 b5 c1 c2 c3 c4 c5
            obtain ⟨zs, hzs⟩ : ∃ z, z = za := ⟨_, rfl⟩
            have hss : zs.size = 128 := by rw [hzs, Hza.out]; exact out_size _ HAa.out
            have qs : ((zs.size : Int) != 128) = false := by rw [bne, beq_iff_eq.2 (show (zs.size : Int) = 128 by omega)]; rfl
            have HSS := Lib.hid hss
            clear hss
            have hcs : zc.size = 128 := by rw [Hzc.out]; exact out_size _ HAc.out
            have qc : ((zc.size : Int) != 128) = false := by rw [bne, beq_iff_eq.2 (show (zc.size : Int) = 128 by omega)]; rfl
            have qc2 : ((zc.size : Int) == 128) = true := beq_iff_eq.2 (by omega)
            have HCS := Lib.hid hcs
            clear hcs
            have HZS := Lib.hid hzs
            rw [← hzs]
            clear hzs
            go_wp2_with fail
            refine (fixed_val _).mono ?_; rintro e w6 ⟨rfl, h6⟩
            go_wp2_with fail
            go_ret
            exact ⟨rfl, below_step PB2.out (below_step h5 h6)⟩
          · by_cases hba : (gb' : Int) ≤ (ga' : Int)
            · have h0 := Below.refl W2.heap.size W2
              obtain ⟨z0, z1, z2, z3, z4, z5⟩ := cells6 (RXa2.out _ h0)
              go_wp2_with fail
              clear z0 z1 z2 z3 z4 z5
              refine (Encode_val (Ck.mk ga' epa' la' va' oda' lna') uoa ula _ KCa.out (SOa2.out.below h0 (Nat.le_refl _)) (SNa2.out.below h0 (Nat.le_refl _)) za 0 Hza (Lib.hid (if_pos HAa.out).symm)).mono ?_; rintro e w3 ⟨rfl, h3⟩
              obtain ⟨z0, z1, z2, z3, z4, z5⟩ := cells6 (RXb2.out _ h3)
              go_wp2_with fail
              clear z0 z1 z2 z3 z4 z5
              refine (Encode_val (Ck.mk gb' epb' lb' vb' odb' lnb') uob ulb _ KCb.out (SOb2.out.below h3 (Nat.le_refl _)) (SNb2.out.below h3 (Nat.le_refl _)) zb 0 Hzb (Lib.hid (if_pos HAb.out).symm)).mono ?_; rintro e w4 ⟨rfl, hb⟩
              have h4 := below_step h3 hb
              clear hb h3
              obtain ⟨z0, z1, z2, z3, z4, z5⟩ := cells6 (RXc2.out _ h4)
              go_wp2_with fail
              clear z0 z1 z2 z3 z4 z5
              refine (Encode_val (Ck.mk gc' epc' lc' vc' odc' lnc') uoc ulc _ KCc.out (SOc2.out.below h4 (Nat.le_refl _)) (SNc2.out.below h4 (Nat.le_refl _)) zc 0 Hzc (Lib.hid (if_pos HAc.out).symm)).mono ?_; rintro e w5 ⟨rfl, hb⟩
              have h5 := below_step h4 hb
              clear hb h4 h0
              obtain ⟨a0, a1, a2, a3, a4, a5⟩ := cells6 (RXa2.out _ h5)
              obtain ⟨b0, b1, b2, b3, b4, b5⟩ := cells6 (RXb2.out _ h5)
              obtain ⟨c0, c1, c2, c3, c4, c5⟩ := cells6 (RXc2.out _ h5)
              clear a1 a2 a3 a4 a5 b1 b2 b3 b4 b5 c1 c2 c3 c4 c5
              obtain ⟨zs, hzs⟩ : ∃ z, z = za := ⟨_, rfl⟩
              have hss : zs.size = 128 := by rw [hzs, Hza.out]; exact out_size _ HAa.out
              have qs : ((zs.size : Int) != 128) = false := by rw [bne, beq_iff_eq.2 (show (zs.size : Int) = 128 by omega)]; rfl
              have HSS := Lib.hid hss
              clear hss
              have hcs : zc.size = 128 := by rw [Hzc.out]; exact out_size _ HAc.out
              have qc : ((zc.size : Int) != 128) = false := by rw [bne, beq_iff_eq.2 (show (zc.size : Int) = 128 by omega)]; rfl
              have qc2 : ((zc.size : Int) == 128) = true := beq_iff_eq.2 (by omega)
              have HCS := Lib.hid hcs
              clear hcs
              have HZS := Lib.hid hzs
              rw [← hzs]
              clear hzs
              go_wp2_with fail
              refine (fixed_val _).mono ?_; rintro e w6 ⟨rfl, h6⟩
              go_wp2_with fail
              go_ret
              exact ⟨rfl, below_step PB2.out (below_step h5 h6)⟩
            · have h0 := Below.refl W2.heap.size W2
              obtain ⟨z0, z1, z2, z3, z4, z5⟩ := cells6 (RXa2.out _ h0)
              go_wp2_with fail
              clear z0 z1 z2 z3 z4 z5
              refine (Encode_val (Ck.mk ga' epa' la' va' oda' lna') uoa ula _ KCa.out (SOa2.out.below h0 (Nat.le_refl _)) (SNa2.out.below h0 (Nat.le_refl _)) za 0 Hza (Lib.hid (if_pos HAa.out).symm)).mono ?_; rintro e w3 ⟨rfl, h3⟩
              obtain ⟨z0, z1, z2, z3, z4, z5⟩ := cells6 (RXb2.out _ h3)
              go_wp2_with fail
              clear z0 z1 z2 z3 z4 z5
              refine (Encode_val (Ck.mk gb' epb' lb' vb' odb' lnb') uob ulb _ KCb.out (SOb2.out.below h3 (Nat.le_refl _)) (SNb2.out.below h3 (Nat.le_refl _)) zb 0 Hzb (Lib.hid (if_pos HAb.out).symm)).mono ?_; rintro e w4 ⟨rfl, hb⟩
              have h4 := below_step h3 hb
              clear hb h3
              obtain ⟨z0, z1, z2, z3, z4, z5⟩ := cells6 (RXc2.out _ h4)
              go_wp2_with fail
              clear z0 z1 z2 z3 z4 z5
              refine (Encode_val (Ck.mk gc' epc' lc' vc' odc' lnc') uoc ulc _ KCc.out (SOc2.out.below h4 (Nat.le_refl _)) (SNc2.out.below h4 (Nat.le_refl _)) zc 0 Hzc (Lib.hid (if_pos HAc.out).symm)).mono ?_; rintro e w5 ⟨rfl, hb⟩
              have h5 := below_step h4 hb
              clear hb h4 h0
              obtain ⟨a0, a1, a2, a3, a4, a5⟩ := cells6 (RXa2.out _ h5)
              obtain ⟨b0, b1, b2, b3, b4, b5⟩ := cells6 (RXb2.out _ h5)
              obtain ⟨c0, c1, c2, c3, c4, c5⟩ := cells6 (RXc2.out _ h5)
              clear a1 a2 a3 a4 a5 b1 b2 b3 b4 b5 c1 c2 c3 c4 c5
              obtain ⟨zs, hzs⟩ : ∃ z, z = za := ⟨_, rfl⟩
              have hss : zs.size = 128 := by rw [hzs, Hza.out]; exact out_size _ HAa.out
              have qs : ((zs.size : Int) != 128) = false := by rw [bne, beq_iff_eq.2 (show (zs.size : Int) = 128 by omega)]; rfl
              have HSS := Lib.hid hss
              clear hss
              have hcs : zc.size = 128 := by rw [Hzc.out]; exact out_size _ HAc.out
              have qc : ((zc.size : Int) != 128) = false := by rw [bne, beq_iff_eq.2 (show (zc.size : Int) = 128 by omega)]; rfl
              have qc2 : ((zc.size : Int) == 128) = true := beq_iff_eq.2 (by omega)
              have HCS := Lib.hid hcs
              clear hcs
              have HZS := Lib.hid hzs
              rw [← hzs]
              clear hzs
              go_wp2_with fail
              have hcs := HCS.out
              have hss := HSS.out
              obtain ⟨m, hm⟩ : ∃ m, m = zc.extract 0 k ++ zs.extract k zs.size := ⟨_, rfl⟩
              have hml : m.data.toList = (Ck.mk gc' epc' lc' vc' odc' lnc').out.data.toList.take k ++ zs.data.toList.drop k := by rw [hm, mixed_list zc zs k hss hk128 hcs, Hzc.out]
              have sz1 : ¬ (zc.size : Int) < (k : Int) := by omega
              have sz2 : ¬ (zs.size : Int) < (k : Int) := by omega
              have sz3 : (9223372036854775807 < (zc.extract 0 k).size + (zs.extract k zs.size).size) = False := eq_false (by rw [ByteArray.size_extract, ByteArray.size_extract]; omega)
              have sz4 : (9223372036854775807 < min k zc.size + (zs.size - k)) = False := eq_false (by omega)
              have sz5 : (9223372036854775807 < min k zc.size + (min zs.size zs.size - k)) = False := eq_false (by omega)
              have HM := Lib.hid hm
              have HML := Lib.hid hml
              clear hcs hss hm hml
              go_wp2_with fail
              refine Loose.wp_region_quiet_fast (by kernel_rfl) (by kernel_rfl) ?_
              (try simp only [List.append_eq, List.cons_append, List.nil_append])
              repeat (go_big_quiet_step (fail))
              refine wpQuiet_nil ?_
              intro _ hw'
              obtain ⟨⟨dq, osq⟩, hw''⟩ := hw'
              subst hw''
              simp only [← HM.out]
              obtain ⟨W6, hW6⟩ : ∃ z, z = Sort.grow (redrawn w5 dq) osq := ⟨_, rfl⟩
              have h6 := below_step h5 (below_regrown w5 dq osq)
              rw [← hW6] at h6 ⊢
              clear hW6 dq osq h5 a0 b0 c0 sz1 sz2 sz3 sz4 sz5 qs qc qc2
              go_wp2_with fail
              by_cases hme : m = zc
              · have e1 := fun V => Best_val m zb V
                obtain ⟨q1, q2, q3⟩ := best_whole (Ck.mk gb' epb' lb' vb' odb' lnb') (Ck.mk gc' epc' lc' vc' odc' lnc') KCb.out KCc.out HAb.out HAc.out (show gb' < gc' by omega) m zb (hme.trans Hzc.out) Hzb.out
                rw [q1, q2, q3] at e1
                simp only [Ck.val] at e1
                have E1 := Lib.hid e1
                have qm : (m.toList == zc.toList) = true := beq_iff_eq.2 (by rw [hme])
                have HME := Lib.hid hme
                clear e1 q1 q2 q3 hme
                refine (E1.out _).mono ?_; rintro e w17 ⟨⟨xo17, xl17, rfl, ho, hl⟩, hb⟩
                obtain ⟨qa, qp, rfl⟩ := ho.form
                obtain ⟨qb, qq, rfl⟩ := hl.form
                obtain ⟨na, hna⟩ : ∃ m, m = (odc' : List Int).length := ⟨_, rfl⟩
                obtain ⟨nb, hnb⟩ : ∃ m, m = (lnc' : List Int).length := ⟨_, rfl⟩
                replace ho : Sl w17 (.slice qa na qp) odc' := by rw [hna]; exact ho
                replace hl : Sl w17 (.slice qb nb qq) lnc' := by rw [hnb]; exact hl
                have hbb := below_step h6 hb
                clear hb
                have HO := Lib.hid ho
                have HL := Lib.hid hl
                clear ho hl
                simp only [← hna, ← hnb]
                clear hna hnb
                go_wp2_with fail
                obtain ⟨X17, hX⟩ : ∃ x, x = w17.heap.size := ⟨_, rfl⟩
                have m17 := heap_alloc_new w17 (.cells #[.int .u64 gc', .int .u32 epc', .int .u64 lc', .int .u64 vc', .slice qa na qp, .slice qb nb qq] 26)
                have mb := (Below.refl w17.heap.size w17).alloc (Nat.le_refl _) (.cells #[.int .u64 gc', .int .u32 epc', .int .u64 lc', .int .u64 vc', .slice qa na qp, .slice qb nb qq] 26)
                obtain ⟨W17, hW⟩ : ∃ x, x = w17.alloc (.cells #[.int .u64 gc', .int .u32 epc', .int .u64 lc', .int .u64 vc', .slice qa na qp, .slice qb nb qq] 26) := ⟨_, rfl⟩
                simp only [← hX, ← hW] at m17 mb ⊢
                rw [hX] at mb
                have hb17 := below_step hbb mb
                have HO17 := HO.out.below mb (Nat.le_refl _)
                have HL17 := HL.out.below mb (Nat.le_refl _)
                obtain ⟨xo17, hxo⟩ : ∃ v, v = Value.slice qa na qp := ⟨_, rfl⟩
                obtain ⟨xl17, hxl⟩ : ∃ v, v = Value.slice qb nb qq := ⟨_, rfl⟩
                simp only [← hxo, ← hxl] at HO17 HL17 m17 ⊢
                clear hX hW mb hbb HO HL hxo hxl
                have RX17 : Hid (∀ V, Below W17.heap.size W17 V → V.heap[X17]? = some (.cells #[.int .u64 gc', .int .u32 epc', .int .u64 lc', .int .u64 vc', xo17, xl17] 26 (0, 0))) := Lib.hid (fun V h => (h.block _ (lt_of_row m17)).trans m17)
                have SO17 : Hid (Sl W17 xo17 odc') := Lib.hid HO17
                have SN17 : Hid (Sl W17 xl17 lnc') := Lib.hid HL17
                clear m17 HO17 HL17
                clear h6
                have f17 := Below.refl W17.heap.size W17
                go_wp2_with fail
                obtain ⟨x0, x1, x2, x3, x4, x5⟩ := cells6 (RX17.out _ f17)
                have X0r := cell_regrown x0
                have X1r := cell_regrown x1
                have X2r := cell_regrown x2
                have X3r := cell_regrown x3
                have X4r := cell_regrown x4
                have X5r := cell_regrown x5
                clear x0 x1 x2 x3 x4 x5
                obtain ⟨y0, y1, y2, y3, y4, y5⟩ := cells6 (RXc2.out _ hb17)
                have Y0r := cell_regrown y0
                have Y1r := cell_regrown y1
                have Y2r := cell_regrown y2
                have Y3r := cell_regrown y3
                have Y4r := cell_regrown y4
                have Y5r := cell_regrown y5
                clear y0 y1 y2 y3 y4 y5
                have s1 := Lib.hid (SO17.out.below f17 (Nat.le_refl _)).regrown
                have t1 := Lib.hid (SN17.out.below f17 (Nat.le_refl _)).regrown
                have s2 := Lib.hid (SOc2.out.below hb17 (Nat.le_refl _)).regrown
                have t2 := Lib.hid (SNc2.out.below hb17 (Nat.le_refl _)).regrown
                have TT := Lib.hid (below_step PB2.out hb17)
                clear f17 hb17
                refine Loose.wp_region_quiet_fast (by kernel_rfl) (by kernel_rfl) ?_
                (try simp only [List.append_eq, List.cons_append, List.nil_append])
                repeat (go_big_quiet_step (fail))
                go_big_quiet_step ((go_at_call 12; exact Calls.regrown_of (Ref_val (Ck.mk gc' epc' lc' vc' odc' lnc') xo17 xl17 _ (s1.out _ _) (t1.out _ _))))
                repeat (go_big_quiet_step (fail))
                go_big_quiet_step ((go_at_call 12; exact Calls.regrown_of (Ref_val (Ck.mk gc' epc' lc' vc' odc' lnc') uoc ulc _ (s2.out _ _) (t2.out _ _))))
                repeat (go_big_quiet_step (fail))
                go_big_quiet_step ((go_at_call 19; exact Calls.regrown_of (Same_any (Ck.mk gc' epc' lc' vc' odc' lnc') (Ck.mk gc' epc' lc' vc' odc' lnc') xo17 xl17 uoc ulc _ KCc.out (s1.out _ _) (t1.out _ _) (s2.out _ _) (t2.out _ _) true (Lib.hid (sameB_refl _).symm))))
                repeat (go_big_quiet_step (fail))
                go_big_quiet_step ((go_at_call 20; exact Calls.regrown_of (fixed_val _)))
                repeat (go_big_quiet_step (fail))
                refine wpQuiet_nil ?_
                intro _ hw'
                obtain ⟨⟨dq, osq⟩, hw''⟩ := hw'
                subst hw''
                go_wp2_with fail
                go_ret
                exact ⟨rfl, below_step TT.out (below_regrown _ dq osq)⟩
              · have e1 := fun V => Best_val m zb V
                obtain ⟨q1, q2, q3⟩ := best_torn (Ck.mk gb' epb' lb' vb' odb' lnb') KCb.out HAb.out m zb Hzb.out (fun hok => torn zs (Ck.mk gc' epc' lc' vc' odc' lnc') gb' HSS.out (by rw [(HZS.out.trans Hza.out)]; exact torn_old (Ck.mk ga' epa' la' va' oda' lna') gb' KCa.out HAa.out (show ga' < gb' by omega)) KCc.out HAc.out k hk128 m HML.out (fun e => hme (e.trans Hzc.out.symm)) hok)
                rw [q1, q2, q3] at e1
                simp only [Ck.val] at e1
                have E1 := Lib.hid e1
                have qm : (m.toList == zc.toList) = false := beq_eq_false_iff_ne.2 (fun e => hme (toList_inj e))
                have HME := Lib.hid hme
                clear e1 q1 q2 q3 hme
                refine (E1.out _).mono ?_; rintro e w17 ⟨⟨xo17, xl17, rfl, ho, hl⟩, hb⟩
                obtain ⟨qa, qp, rfl⟩ := ho.form
                obtain ⟨qb, qq, rfl⟩ := hl.form
                obtain ⟨na, hna⟩ : ∃ m, m = (odb' : List Int).length := ⟨_, rfl⟩
                obtain ⟨nb, hnb⟩ : ∃ m, m = (lnb' : List Int).length := ⟨_, rfl⟩
                replace ho : Sl w17 (.slice qa na qp) odb' := by rw [hna]; exact ho
                replace hl : Sl w17 (.slice qb nb qq) lnb' := by rw [hnb]; exact hl
                have hbb := below_step h6 hb
                clear hb
                have HO := Lib.hid ho
                have HL := Lib.hid hl
                clear ho hl
                simp only [← hna, ← hnb]
                clear hna hnb
                go_wp2_with fail
                obtain ⟨X17, hX⟩ : ∃ x, x = w17.heap.size := ⟨_, rfl⟩
                have m17 := heap_alloc_new w17 (.cells #[.int .u64 gb', .int .u32 epb', .int .u64 lb', .int .u64 vb', .slice qa na qp, .slice qb nb qq] 26)
                have mb := (Below.refl w17.heap.size w17).alloc (Nat.le_refl _) (.cells #[.int .u64 gb', .int .u32 epb', .int .u64 lb', .int .u64 vb', .slice qa na qp, .slice qb nb qq] 26)
                obtain ⟨W17, hW⟩ : ∃ x, x = w17.alloc (.cells #[.int .u64 gb', .int .u32 epb', .int .u64 lb', .int .u64 vb', .slice qa na qp, .slice qb nb qq] 26) := ⟨_, rfl⟩
                simp only [← hX, ← hW] at m17 mb ⊢
                rw [hX] at mb
                have hb17 := below_step hbb mb
                have HO17 := HO.out.below mb (Nat.le_refl _)
                have HL17 := HL.out.below mb (Nat.le_refl _)
                obtain ⟨xo17, hxo⟩ : ∃ v, v = Value.slice qa na qp := ⟨_, rfl⟩
                obtain ⟨xl17, hxl⟩ : ∃ v, v = Value.slice qb nb qq := ⟨_, rfl⟩
                simp only [← hxo, ← hxl] at HO17 HL17 m17 ⊢
                clear hX hW mb hbb HO HL hxo hxl
                have RX17 : Hid (∀ V, Below W17.heap.size W17 V → V.heap[X17]? = some (.cells #[.int .u64 gb', .int .u32 epb', .int .u64 lb', .int .u64 vb', xo17, xl17] 26 (0, 0))) := Lib.hid (fun V h => (h.block _ (lt_of_row m17)).trans m17)
                have SO17 : Hid (Sl W17 xo17 odb') := Lib.hid HO17
                have SN17 : Hid (Sl W17 xl17 lnb') := Lib.hid HL17
                clear m17 HO17 HL17
                clear h6
                have f17 := Below.refl W17.heap.size W17
                go_wp2_with fail
                obtain ⟨x0, x1, x2, x3, x4, x5⟩ := cells6 (RX17.out _ f17)
                have X0r := cell_regrown x0
                have X1r := cell_regrown x1
                have X2r := cell_regrown x2
                have X3r := cell_regrown x3
                have X4r := cell_regrown x4
                have X5r := cell_regrown x5
                clear x0 x1 x2 x3 x4 x5
                obtain ⟨y0, y1, y2, y3, y4, y5⟩ := cells6 (RXb2.out _ hb17)
                have Y0r := cell_regrown y0
                have Y1r := cell_regrown y1
                have Y2r := cell_regrown y2
                have Y3r := cell_regrown y3
                have Y4r := cell_regrown y4
                have Y5r := cell_regrown y5
                clear y0 y1 y2 y3 y4 y5
                have s1 := Lib.hid (SO17.out.below f17 (Nat.le_refl _)).regrown
                have t1 := Lib.hid (SN17.out.below f17 (Nat.le_refl _)).regrown
                have s2 := Lib.hid (SOb2.out.below hb17 (Nat.le_refl _)).regrown
                have t2 := Lib.hid (SNb2.out.below hb17 (Nat.le_refl _)).regrown
                have TT := Lib.hid (below_step PB2.out hb17)
                clear f17 hb17
                refine Loose.wp_region_quiet_fast (by kernel_rfl) (by kernel_rfl) ?_
                (try simp only [List.append_eq, List.cons_append, List.nil_append])
                repeat (go_big_quiet_step (fail))
                go_big_quiet_step ((go_at_call 12; exact Calls.regrown_of (Ref_val (Ck.mk gb' epb' lb' vb' odb' lnb') xo17 xl17 _ (s1.out _ _) (t1.out _ _))))
                repeat (go_big_quiet_step (fail))
                go_big_quiet_step ((go_at_call 12; exact Calls.regrown_of (Ref_val (Ck.mk gb' epb' lb' vb' odb' lnb') uob ulb _ (s2.out _ _) (t2.out _ _))))
                repeat (go_big_quiet_step (fail))
                go_big_quiet_step ((go_at_call 19; exact Calls.regrown_of (Same_any (Ck.mk gb' epb' lb' vb' odb' lnb') (Ck.mk gb' epb' lb' vb' odb' lnb') xo17 xl17 uob ulb _ KCb.out (s1.out _ _) (t1.out _ _) (s2.out _ _) (t2.out _ _) true (Lib.hid (sameB_refl _).symm))))
                repeat (go_big_quiet_step (fail))
                go_big_quiet_step ((go_at_call 20; exact Calls.regrown_of (fixed_val _)))
                repeat (go_big_quiet_step (fail))
                refine wpQuiet_nil ?_
                intro _ hw'
                obtain ⟨⟨dq, osq⟩, hw''⟩ := hw'
                subst hw''
                go_wp2_with fail
                go_ret
                exact ⟨rfl, below_step TT.out (below_regrown _ dq osq)⟩
        · have HAc := Lib.hid hAc
          clear hAc
          have h0 := Below.refl W2.heap.size W2
          obtain ⟨z0, z1, z2, z3, z4, z5⟩ := cells6 (RXa2.out _ h0)
          go_wp2_with fail
          clear z0 z1 z2 z3 z4 z5
          refine (Encode_val (Ck.mk ga' epa' la' va' oda' lna') uoa ula _ KCa.out (SOa2.out.below h0 (Nat.le_refl _)) (SNa2.out.below h0 (Nat.le_refl _)) za 0 Hza (Lib.hid (if_pos HAa.out).symm)).mono ?_; rintro e w3 ⟨rfl, h3⟩
          obtain ⟨z0, z1, z2, z3, z4, z5⟩ := cells6 (RXb2.out _ h3)
          go_wp2_with fail
          clear z0 z1 z2 z3 z4 z5
          refine (Encode_val (Ck.mk gb' epb' lb' vb' odb' lnb') uob ulb _ KCb.out (SOb2.out.below h3 (Nat.le_refl _)) (SNb2.out.below h3 (Nat.le_refl _)) zb 0 Hzb (Lib.hid (if_pos HAb.out).symm)).mono ?_; rintro e w4 ⟨rfl, hb⟩
          have h4 := below_step h3 hb
          clear hb h3
          obtain ⟨z0, z1, z2, z3, z4, z5⟩ := cells6 (RXc2.out _ h4)
          go_wp2_with fail
          clear z0 z1 z2 z3 z4 z5
          refine (Encode_val (Ck.mk gc' epc' lc' vc' odc' lnc') uoc ulc _ KCc.out (SOc2.out.below h4 (Nat.le_refl _)) (SNc2.out.below h4 (Nat.le_refl _)) ⟨#[]⟩ 5 (Lib.hid (if_neg HAc.out).symm) (Lib.hid (if_neg HAc.out).symm)).mono ?_; rintro e w5 ⟨rfl, hb⟩
          have h5 := below_step h4 hb
          clear hb h4 h0
          obtain ⟨a0, a1, a2, a3, a4, a5⟩ := cells6 (RXa2.out _ h5)
          obtain ⟨b0, b1, b2, b3, b4, b5⟩ := cells6 (RXb2.out _ h5)
          obtain ⟨c0, c1, c2, c3, c4, c5⟩ := cells6 (RXc2.out _ h5)
          clear a1 a2 a3 a4 a5 b1 b2 b3 b4 b5 c1 c2 c3 c4 c5
          obtain ⟨zs, hzs⟩ : ∃ z, z = za := ⟨_, rfl⟩
          have hss : zs.size = 128 := by rw [hzs, Hza.out]; exact out_size _ HAa.out
          have qs : ((zs.size : Int) != 128) = false := by rw [bne, beq_iff_eq.2 (show (zs.size : Int) = 128 by omega)]; rfl
          have HSS := Lib.hid hss
          clear hss
          have HZS := Lib.hid hzs
          rw [← hzs]
          clear hzs
          go_wp2_with fail
          refine (fixed_val _).mono ?_; rintro e w6 ⟨rfl, h6⟩
          go_wp2_with fail
          go_ret
          exact ⟨rfl, below_step PB2.out (below_step h5 h6)⟩
      · have HAa := Lib.hid hAa
        clear hAa
        obtain ⟨za, hz⟩ : ∃ z, z = (Ck.mk ga' epa' la' va' oda' lna').out := ⟨_, rfl⟩
        have Hza := Lib.hid hz
        clear hz
        have HAb := Lib.hid hAb
        clear hAb
        by_cases hAc : (Ck.mk gc' epc' lc' vc' odc' lnc').Right
        · have HAc := Lib.hid hAc
          clear hAc
          obtain ⟨zc, hz⟩ : ∃ z, z = (Ck.mk gc' epc' lc' vc' odc' lnc').out := ⟨_, rfl⟩
          have Hzc := Lib.hid hz
          clear hz
          have h0 := Below.refl W2.heap.size W2
          obtain ⟨z0, z1, z2, z3, z4, z5⟩ := cells6 (RXa2.out _ h0)
          go_wp2_with fail
          clear z0 z1 z2 z3 z4 z5
          refine (Encode_val (Ck.mk ga' epa' la' va' oda' lna') uoa ula _ KCa.out (SOa2.out.below h0 (Nat.le_refl _)) (SNa2.out.below h0 (Nat.le_refl _)) za 0 Hza (Lib.hid (if_pos HAa.out).symm)).mono ?_; rintro e w3 ⟨rfl, h3⟩
          obtain ⟨z0, z1, z2, z3, z4, z5⟩ := cells6 (RXb2.out _ h3)
          go_wp2_with fail
          clear z0 z1 z2 z3 z4 z5
          refine (Encode_val (Ck.mk gb' epb' lb' vb' odb' lnb') uob ulb _ KCb.out (SOb2.out.below h3 (Nat.le_refl _)) (SNb2.out.below h3 (Nat.le_refl _)) ⟨#[]⟩ 5 (Lib.hid (if_neg HAb.out).symm) (Lib.hid (if_neg HAb.out).symm)).mono ?_; rintro e w4 ⟨rfl, hb⟩
          have h4 := below_step h3 hb
          clear hb h3
          obtain ⟨z0, z1, z2, z3, z4, z5⟩ := cells6 (RXc2.out _ h4)
          go_wp2_with fail
          clear z0 z1 z2 z3 z4 z5
          refine (Encode_val (Ck.mk gc' epc' lc' vc' odc' lnc') uoc ulc _ KCc.out (SOc2.out.below h4 (Nat.le_refl _)) (SNc2.out.below h4 (Nat.le_refl _)) zc 0 Hzc (Lib.hid (if_pos HAc.out).symm)).mono ?_; rintro e w5 ⟨rfl, hb⟩
          have h5 := below_step h4 hb
          clear hb h4 h0
          obtain ⟨a0, a1, a2, a3, a4, a5⟩ := cells6 (RXa2.out _ h5)
          obtain ⟨b0, b1, b2, b3, b4, b5⟩ := cells6 (RXb2.out _ h5)
          obtain ⟨c0, c1, c2, c3, c4, c5⟩ := cells6 (RXc2.out _ h5)
          clear a1 a2 a3 a4 a5 b1 b2 b3 b4 b5 c1 c2 c3 c4 c5
          obtain ⟨zs, hzs⟩ : ∃ z, z = za := ⟨_, rfl⟩
          have hss : zs.size = 128 := by rw [hzs, Hza.out]; exact out_size _ HAa.out
          have qs : ((zs.size : Int) != 128) = false := by rw [bne, beq_iff_eq.2 (show (zs.size : Int) = 128 by omega)]; rfl
          have HSS := Lib.hid hss
          clear hss
          have hcs : zc.size = 128 := by rw [Hzc.out]; exact out_size _ HAc.out
          have qc : ((zc.size : Int) != 128) = false := by rw [bne, beq_iff_eq.2 (show (zc.size : Int) = 128 by omega)]; rfl
          have qc2 : ((zc.size : Int) == 128) = true := beq_iff_eq.2 (by omega)
          have HCS := Lib.hid hcs
          clear hcs
          have HZS := Lib.hid hzs
          rw [← hzs]
          clear hzs
          go_wp2_with fail
          refine (fixed_val _).mono ?_; rintro e w6 ⟨rfl, h6⟩
          go_wp2_with fail
          go_ret
          exact ⟨rfl, below_step PB2.out (below_step h5 h6)⟩
        · have HAc := Lib.hid hAc
          clear hAc
          have h0 := Below.refl W2.heap.size W2
          obtain ⟨z0, z1, z2, z3, z4, z5⟩ := cells6 (RXa2.out _ h0)
          go_wp2_with fail
          clear z0 z1 z2 z3 z4 z5
          refine (Encode_val (Ck.mk ga' epa' la' va' oda' lna') uoa ula _ KCa.out (SOa2.out.below h0 (Nat.le_refl _)) (SNa2.out.below h0 (Nat.le_refl _)) za 0 Hza (Lib.hid (if_pos HAa.out).symm)).mono ?_; rintro e w3 ⟨rfl, h3⟩
          obtain ⟨z0, z1, z2, z3, z4, z5⟩ := cells6 (RXb2.out _ h3)
          go_wp2_with fail
          clear z0 z1 z2 z3 z4 z5
          refine (Encode_val (Ck.mk gb' epb' lb' vb' odb' lnb') uob ulb _ KCb.out (SOb2.out.below h3 (Nat.le_refl _)) (SNb2.out.below h3 (Nat.le_refl _)) ⟨#[]⟩ 5 (Lib.hid (if_neg HAb.out).symm) (Lib.hid (if_neg HAb.out).symm)).mono ?_; rintro e w4 ⟨rfl, hb⟩
          have h4 := below_step h3 hb
          clear hb h3
          obtain ⟨z0, z1, z2, z3, z4, z5⟩ := cells6 (RXc2.out _ h4)
          go_wp2_with fail
          clear z0 z1 z2 z3 z4 z5
          refine (Encode_val (Ck.mk gc' epc' lc' vc' odc' lnc') uoc ulc _ KCc.out (SOc2.out.below h4 (Nat.le_refl _)) (SNc2.out.below h4 (Nat.le_refl _)) ⟨#[]⟩ 5 (Lib.hid (if_neg HAc.out).symm) (Lib.hid (if_neg HAc.out).symm)).mono ?_; rintro e w5 ⟨rfl, hb⟩
          have h5 := below_step h4 hb
          clear hb h4 h0
          obtain ⟨a0, a1, a2, a3, a4, a5⟩ := cells6 (RXa2.out _ h5)
          obtain ⟨b0, b1, b2, b3, b4, b5⟩ := cells6 (RXb2.out _ h5)
          obtain ⟨c0, c1, c2, c3, c4, c5⟩ := cells6 (RXc2.out _ h5)
          clear a1 a2 a3 a4 a5 b1 b2 b3 b4 b5 c1 c2 c3 c4 c5
          obtain ⟨zs, hzs⟩ : ∃ z, z = za := ⟨_, rfl⟩
          have hss : zs.size = 128 := by rw [hzs, Hza.out]; exact out_size _ HAa.out
          have qs : ((zs.size : Int) != 128) = false := by rw [bne, beq_iff_eq.2 (show (zs.size : Int) = 128 by omega)]; rfl
          have HSS := Lib.hid hss
          clear hss
          have HZS := Lib.hid hzs
          rw [← hzs]
          clear hzs
          go_wp2_with fail
          refine (fixed_val _).mono ?_; rintro e w6 ⟨rfl, h6⟩
          go_wp2_with fail
          go_ret
          exact ⟨rfl, below_step PB2.out (below_step h5 h6)⟩
    · by_cases hAb : (Ck.mk gb' epb' lb' vb' odb' lnb').Right
      · have HAa := Lib.hid hAa
        clear hAa
        have HAb := Lib.hid hAb
        clear hAb
        obtain ⟨zb, hz⟩ : ∃ z, z = (Ck.mk gb' epb' lb' vb' odb' lnb').out := ⟨_, rfl⟩
        have Hzb := Lib.hid hz
        clear hz
        by_cases hAc : (Ck.mk gc' epc' lc' vc' odc' lnc').Right
        · have HAc := Lib.hid hAc
          clear hAc
          obtain ⟨zc, hz⟩ : ∃ z, z = (Ck.mk gc' epc' lc' vc' odc' lnc').out := ⟨_, rfl⟩
          have Hzc := Lib.hid hz
          clear hz
          by_cases hcb : (gc' : Int) ≤ (gb' : Int)
          · have h0 := Below.refl W2.heap.size W2
            obtain ⟨z0, z1, z2, z3, z4, z5⟩ := cells6 (RXa2.out _ h0)
            go_wp2_with fail
            clear z0 z1 z2 z3 z4 z5
            refine (Encode_val (Ck.mk ga' epa' la' va' oda' lna') uoa ula _ KCa.out (SOa2.out.below h0 (Nat.le_refl _)) (SNa2.out.below h0 (Nat.le_refl _)) ⟨#[]⟩ 5 (Lib.hid (if_neg HAa.out).symm) (Lib.hid (if_neg HAa.out).symm)).mono ?_; rintro e w3 ⟨rfl, h3⟩
            obtain ⟨z0, z1, z2, z3, z4, z5⟩ := cells6 (RXb2.out _ h3)
            go_wp2_with fail
            clear z0 z1 z2 z3 z4 z5
            refine (Encode_val (Ck.mk gb' epb' lb' vb' odb' lnb') uob ulb _ KCb.out (SOb2.out.below h3 (Nat.le_refl _)) (SNb2.out.below h3 (Nat.le_refl _)) zb 0 Hzb (Lib.hid (if_pos HAb.out).symm)).mono ?_; rintro e w4 ⟨rfl, hb⟩
            have h4 := below_step h3 hb
            clear hb h3
            obtain ⟨z0, z1, z2, z3, z4, z5⟩ := cells6 (RXc2.out _ h4)
            go_wp2_with fail
            clear z0 z1 z2 z3 z4 z5
            refine (Encode_val (Ck.mk gc' epc' lc' vc' odc' lnc') uoc ulc _ KCc.out (SOc2.out.below h4 (Nat.le_refl _)) (SNc2.out.below h4 (Nat.le_refl _)) zc 0 Hzc (Lib.hid (if_pos HAc.out).symm)).mono ?_; rintro e w5 ⟨rfl, hb⟩
            have h5 := below_step h4 hb
            clear hb h4 h0
            obtain ⟨a0, a1, a2, a3, a4, a5⟩ := cells6 (RXa2.out _ h5)
            obtain ⟨b0, b1, b2, b3, b4, b5⟩ := cells6 (RXb2.out _ h5)
            obtain ⟨c0, c1, c2, c3, c4, c5⟩ := cells6 (RXc2.out _ h5)
            clear a1 a2 a3 a4 a5 b1 b2 b3 b4 b5 c1 c2 c3 c4 c5
            obtain ⟨zs, hzs⟩ : ∃ z, z = zeros128 := ⟨_, rfl⟩
            have hss : zs.size = 128 := by rw [hzs]; rfl
            have qs : ((zs.size : Int) != 128) = false := by rw [bne, beq_iff_eq.2 (show (zs.size : Int) = 128 by omega)]; rfl
            have HSS := Lib.hid hss
            clear hss
            have hcs : zc.size = 128 := by rw [Hzc.out]; exact out_size _ HAc.out
            have qc : ((zc.size : Int) != 128) = false := by rw [bne, beq_iff_eq.2 (show (zc.size : Int) = 128 by omega)]; rfl
            have qc2 : ((zc.size : Int) == 128) = true := beq_iff_eq.2 (by omega)
            have HCS := Lib.hid hcs
            clear hcs
            have HZS := Lib.hid hzs
            clear hzs
            go_wp2_with fail
            refine (Zero_val _ zs HZS).mono ?_; rintro e wz ⟨rfl, rfl⟩
            go_wp2_with fail
            refine (fixed_val _).mono ?_; rintro e w6 ⟨rfl, h6⟩
            go_wp2_with fail
            go_ret
            exact ⟨rfl, below_step PB2.out (below_step h5 h6)⟩
          · have h0 := Below.refl W2.heap.size W2
            obtain ⟨z0, z1, z2, z3, z4, z5⟩ := cells6 (RXa2.out _ h0)
            go_wp2_with fail
            clear z0 z1 z2 z3 z4 z5
            refine (Encode_val (Ck.mk ga' epa' la' va' oda' lna') uoa ula _ KCa.out (SOa2.out.below h0 (Nat.le_refl _)) (SNa2.out.below h0 (Nat.le_refl _)) ⟨#[]⟩ 5 (Lib.hid (if_neg HAa.out).symm) (Lib.hid (if_neg HAa.out).symm)).mono ?_; rintro e w3 ⟨rfl, h3⟩
            obtain ⟨z0, z1, z2, z3, z4, z5⟩ := cells6 (RXb2.out _ h3)
            go_wp2_with fail
            clear z0 z1 z2 z3 z4 z5
            refine (Encode_val (Ck.mk gb' epb' lb' vb' odb' lnb') uob ulb _ KCb.out (SOb2.out.below h3 (Nat.le_refl _)) (SNb2.out.below h3 (Nat.le_refl _)) zb 0 Hzb (Lib.hid (if_pos HAb.out).symm)).mono ?_; rintro e w4 ⟨rfl, hb⟩
            have h4 := below_step h3 hb
            clear hb h3
            obtain ⟨z0, z1, z2, z3, z4, z5⟩ := cells6 (RXc2.out _ h4)
            go_wp2_with fail
            clear z0 z1 z2 z3 z4 z5
            refine (Encode_val (Ck.mk gc' epc' lc' vc' odc' lnc') uoc ulc _ KCc.out (SOc2.out.below h4 (Nat.le_refl _)) (SNc2.out.below h4 (Nat.le_refl _)) zc 0 Hzc (Lib.hid (if_pos HAc.out).symm)).mono ?_; rintro e w5 ⟨rfl, hb⟩
            have h5 := below_step h4 hb
            clear hb h4 h0
            obtain ⟨a0, a1, a2, a3, a4, a5⟩ := cells6 (RXa2.out _ h5)
            obtain ⟨b0, b1, b2, b3, b4, b5⟩ := cells6 (RXb2.out _ h5)
            obtain ⟨c0, c1, c2, c3, c4, c5⟩ := cells6 (RXc2.out _ h5)
            clear a1 a2 a3 a4 a5 b1 b2 b3 b4 b5 c1 c2 c3 c4 c5
            obtain ⟨zs, hzs⟩ : ∃ z, z = zeros128 := ⟨_, rfl⟩
            have hss : zs.size = 128 := by rw [hzs]; rfl
            have qs : ((zs.size : Int) != 128) = false := by rw [bne, beq_iff_eq.2 (show (zs.size : Int) = 128 by omega)]; rfl
            have HSS := Lib.hid hss
            clear hss
            have hcs : zc.size = 128 := by rw [Hzc.out]; exact out_size _ HAc.out
            have qc : ((zc.size : Int) != 128) = false := by rw [bne, beq_iff_eq.2 (show (zc.size : Int) = 128 by omega)]; rfl
            have qc2 : ((zc.size : Int) == 128) = true := beq_iff_eq.2 (by omega)
            have HCS := Lib.hid hcs
            clear hcs
            have HZS := Lib.hid hzs
            clear hzs
            go_wp2_with fail
            refine (Zero_val _ zs HZS).mono ?_; rintro e wz ⟨rfl, rfl⟩
            go_wp2_with fail
            have hcs := HCS.out
            have hss := HSS.out
            obtain ⟨m, hm⟩ : ∃ m, m = zc.extract 0 k ++ zs.extract k zs.size := ⟨_, rfl⟩
            have hml : m.data.toList = (Ck.mk gc' epc' lc' vc' odc' lnc').out.data.toList.take k ++ zs.data.toList.drop k := by rw [hm, mixed_list zc zs k hss hk128 hcs, Hzc.out]
            have sz1 : ¬ (zc.size : Int) < (k : Int) := by omega
            have sz2 : ¬ (zs.size : Int) < (k : Int) := by omega
            have sz3 : (9223372036854775807 < (zc.extract 0 k).size + (zs.extract k zs.size).size) = False := eq_false (by rw [ByteArray.size_extract, ByteArray.size_extract]; omega)
            have sz4 : (9223372036854775807 < min k zc.size + (zs.size - k)) = False := eq_false (by omega)
            have sz5 : (9223372036854775807 < min k zc.size + (min zs.size zs.size - k)) = False := eq_false (by omega)
            have HM := Lib.hid hm
            have HML := Lib.hid hml
            clear hcs hss hm hml
            go_wp2_with fail
            refine Loose.wp_region_quiet_fast (by kernel_rfl) (by kernel_rfl) ?_
            (try simp only [List.append_eq, List.cons_append, List.nil_append])
            repeat (go_big_quiet_step (fail))
            refine wpQuiet_nil ?_
            intro _ hw'
            obtain ⟨⟨dq, osq⟩, hw''⟩ := hw'
            subst hw''
            simp only [← HM.out]
            obtain ⟨W6, hW6⟩ : ∃ z, z = Sort.grow (redrawn w5 dq) osq := ⟨_, rfl⟩
            have h6 := below_step h5 (below_regrown w5 dq osq)
            rw [← hW6] at h6 ⊢
            clear hW6 dq osq h5 a0 b0 c0 sz1 sz2 sz3 sz4 sz5 qs qc qc2
            go_wp2_with fail
            by_cases hme : m = zc
            · have e1 := fun V => Best_val m zb V
              obtain ⟨q1, q2, q3⟩ := best_whole (Ck.mk gb' epb' lb' vb' odb' lnb') (Ck.mk gc' epc' lc' vc' odc' lnc') KCb.out KCc.out HAb.out HAc.out (show gb' < gc' by omega) m zb (hme.trans Hzc.out) Hzb.out
              rw [q1, q2, q3] at e1
              simp only [Ck.val] at e1
              have E1 := Lib.hid e1
              have qm : (m.toList == zc.toList) = true := beq_iff_eq.2 (by rw [hme])
              have HME := Lib.hid hme
              clear e1 q1 q2 q3 hme
              refine (E1.out _).mono ?_; rintro e w17 ⟨⟨xo17, xl17, rfl, ho, hl⟩, hb⟩
              obtain ⟨qa, qp, rfl⟩ := ho.form
              obtain ⟨qb, qq, rfl⟩ := hl.form
              obtain ⟨na, hna⟩ : ∃ m, m = (odc' : List Int).length := ⟨_, rfl⟩
              obtain ⟨nb, hnb⟩ : ∃ m, m = (lnc' : List Int).length := ⟨_, rfl⟩
              replace ho : Sl w17 (.slice qa na qp) odc' := by rw [hna]; exact ho
              replace hl : Sl w17 (.slice qb nb qq) lnc' := by rw [hnb]; exact hl
              have hbb := below_step h6 hb
              clear hb
              have HO := Lib.hid ho
              have HL := Lib.hid hl
              clear ho hl
              simp only [← hna, ← hnb]
              clear hna hnb
              go_wp2_with fail
              obtain ⟨X17, hX⟩ : ∃ x, x = w17.heap.size := ⟨_, rfl⟩
              have m17 := heap_alloc_new w17 (.cells #[.int .u64 gc', .int .u32 epc', .int .u64 lc', .int .u64 vc', .slice qa na qp, .slice qb nb qq] 26)
              have mb := (Below.refl w17.heap.size w17).alloc (Nat.le_refl _) (.cells #[.int .u64 gc', .int .u32 epc', .int .u64 lc', .int .u64 vc', .slice qa na qp, .slice qb nb qq] 26)
              obtain ⟨W17, hW⟩ : ∃ x, x = w17.alloc (.cells #[.int .u64 gc', .int .u32 epc', .int .u64 lc', .int .u64 vc', .slice qa na qp, .slice qb nb qq] 26) := ⟨_, rfl⟩
              simp only [← hX, ← hW] at m17 mb ⊢
              rw [hX] at mb
              have hb17 := below_step hbb mb
              have HO17 := HO.out.below mb (Nat.le_refl _)
              have HL17 := HL.out.below mb (Nat.le_refl _)
              obtain ⟨xo17, hxo⟩ : ∃ v, v = Value.slice qa na qp := ⟨_, rfl⟩
              obtain ⟨xl17, hxl⟩ : ∃ v, v = Value.slice qb nb qq := ⟨_, rfl⟩
              simp only [← hxo, ← hxl] at HO17 HL17 m17 ⊢
              clear hX hW mb hbb HO HL hxo hxl
              have RX17 : Hid (∀ V, Below W17.heap.size W17 V → V.heap[X17]? = some (.cells #[.int .u64 gc', .int .u32 epc', .int .u64 lc', .int .u64 vc', xo17, xl17] 26 (0, 0))) := Lib.hid (fun V h => (h.block _ (lt_of_row m17)).trans m17)
              have SO17 : Hid (Sl W17 xo17 odc') := Lib.hid HO17
              have SN17 : Hid (Sl W17 xl17 lnc') := Lib.hid HL17
              clear m17 HO17 HL17
              clear h6
              have f17 := Below.refl W17.heap.size W17
              go_wp2_with fail
              obtain ⟨x0, x1, x2, x3, x4, x5⟩ := cells6 (RX17.out _ f17)
              have X0r := cell_regrown x0
              have X1r := cell_regrown x1
              have X2r := cell_regrown x2
              have X3r := cell_regrown x3
              have X4r := cell_regrown x4
              have X5r := cell_regrown x5
              clear x0 x1 x2 x3 x4 x5
              obtain ⟨y0, y1, y2, y3, y4, y5⟩ := cells6 (RXc2.out _ hb17)
              have Y0r := cell_regrown y0
              have Y1r := cell_regrown y1
              have Y2r := cell_regrown y2
              have Y3r := cell_regrown y3
              have Y4r := cell_regrown y4
              have Y5r := cell_regrown y5
              clear y0 y1 y2 y3 y4 y5
              have s1 := Lib.hid (SO17.out.below f17 (Nat.le_refl _)).regrown
              have t1 := Lib.hid (SN17.out.below f17 (Nat.le_refl _)).regrown
              have s2 := Lib.hid (SOc2.out.below hb17 (Nat.le_refl _)).regrown
              have t2 := Lib.hid (SNc2.out.below hb17 (Nat.le_refl _)).regrown
              have TT := Lib.hid (below_step PB2.out hb17)
              clear f17 hb17
              refine Loose.wp_region_quiet_fast (by kernel_rfl) (by kernel_rfl) ?_
              (try simp only [List.append_eq, List.cons_append, List.nil_append])
              repeat (go_big_quiet_step (fail))
              go_big_quiet_step ((go_at_call 12; exact Calls.regrown_of (Ref_val (Ck.mk gc' epc' lc' vc' odc' lnc') xo17 xl17 _ (s1.out _ _) (t1.out _ _))))
              repeat (go_big_quiet_step (fail))
              go_big_quiet_step ((go_at_call 12; exact Calls.regrown_of (Ref_val (Ck.mk gc' epc' lc' vc' odc' lnc') uoc ulc _ (s2.out _ _) (t2.out _ _))))
              repeat (go_big_quiet_step (fail))
              go_big_quiet_step ((go_at_call 19; exact Calls.regrown_of (Same_any (Ck.mk gc' epc' lc' vc' odc' lnc') (Ck.mk gc' epc' lc' vc' odc' lnc') xo17 xl17 uoc ulc _ KCc.out (s1.out _ _) (t1.out _ _) (s2.out _ _) (t2.out _ _) true (Lib.hid (sameB_refl _).symm))))
              repeat (go_big_quiet_step (fail))
              go_big_quiet_step ((go_at_call 20; exact Calls.regrown_of (fixed_val _)))
              repeat (go_big_quiet_step (fail))
              refine wpQuiet_nil ?_
              intro _ hw'
              obtain ⟨⟨dq, osq⟩, hw''⟩ := hw'
              subst hw''
              go_wp2_with fail
              go_ret
              exact ⟨rfl, below_step TT.out (below_regrown _ dq osq)⟩
            · have e1 := fun V => Best_val m zb V
              obtain ⟨q1, q2, q3⟩ := best_torn (Ck.mk gb' epb' lb' vb' odb' lnb') KCb.out HAb.out m zb Hzb.out (fun hok => torn zs (Ck.mk gc' epc' lc' vc' odc' lnc') gb' HSS.out (by rw [HZS.out]; exact torn_zero gb' (by have := HAb.out.1; simp only [] at this; omega)) KCc.out HAc.out k hk128 m HML.out (fun e => hme (e.trans Hzc.out.symm)) hok)
              rw [q1, q2, q3] at e1
              simp only [Ck.val] at e1
              have E1 := Lib.hid e1
              have qm : (m.toList == zc.toList) = false := beq_eq_false_iff_ne.2 (fun e => hme (toList_inj e))
              have HME := Lib.hid hme
              clear e1 q1 q2 q3 hme
              refine (E1.out _).mono ?_; rintro e w17 ⟨⟨xo17, xl17, rfl, ho, hl⟩, hb⟩
              obtain ⟨qa, qp, rfl⟩ := ho.form
              obtain ⟨qb, qq, rfl⟩ := hl.form
              obtain ⟨na, hna⟩ : ∃ m, m = (odb' : List Int).length := ⟨_, rfl⟩
              obtain ⟨nb, hnb⟩ : ∃ m, m = (lnb' : List Int).length := ⟨_, rfl⟩
              replace ho : Sl w17 (.slice qa na qp) odb' := by rw [hna]; exact ho
              replace hl : Sl w17 (.slice qb nb qq) lnb' := by rw [hnb]; exact hl
              have hbb := below_step h6 hb
              clear hb
              have HO := Lib.hid ho
              have HL := Lib.hid hl
              clear ho hl
              simp only [← hna, ← hnb]
              clear hna hnb
              go_wp2_with fail
              obtain ⟨X17, hX⟩ : ∃ x, x = w17.heap.size := ⟨_, rfl⟩
              have m17 := heap_alloc_new w17 (.cells #[.int .u64 gb', .int .u32 epb', .int .u64 lb', .int .u64 vb', .slice qa na qp, .slice qb nb qq] 26)
              have mb := (Below.refl w17.heap.size w17).alloc (Nat.le_refl _) (.cells #[.int .u64 gb', .int .u32 epb', .int .u64 lb', .int .u64 vb', .slice qa na qp, .slice qb nb qq] 26)
              obtain ⟨W17, hW⟩ : ∃ x, x = w17.alloc (.cells #[.int .u64 gb', .int .u32 epb', .int .u64 lb', .int .u64 vb', .slice qa na qp, .slice qb nb qq] 26) := ⟨_, rfl⟩
              simp only [← hX, ← hW] at m17 mb ⊢
              rw [hX] at mb
              have hb17 := below_step hbb mb
              have HO17 := HO.out.below mb (Nat.le_refl _)
              have HL17 := HL.out.below mb (Nat.le_refl _)
              obtain ⟨xo17, hxo⟩ : ∃ v, v = Value.slice qa na qp := ⟨_, rfl⟩
              obtain ⟨xl17, hxl⟩ : ∃ v, v = Value.slice qb nb qq := ⟨_, rfl⟩
              simp only [← hxo, ← hxl] at HO17 HL17 m17 ⊢
              clear hX hW mb hbb HO HL hxo hxl
              have RX17 : Hid (∀ V, Below W17.heap.size W17 V → V.heap[X17]? = some (.cells #[.int .u64 gb', .int .u32 epb', .int .u64 lb', .int .u64 vb', xo17, xl17] 26 (0, 0))) := Lib.hid (fun V h => (h.block _ (lt_of_row m17)).trans m17)
              have SO17 : Hid (Sl W17 xo17 odb') := Lib.hid HO17
              have SN17 : Hid (Sl W17 xl17 lnb') := Lib.hid HL17
              clear m17 HO17 HL17
              clear h6
              have f17 := Below.refl W17.heap.size W17
              go_wp2_with fail
              obtain ⟨x0, x1, x2, x3, x4, x5⟩ := cells6 (RX17.out _ f17)
              have X0r := cell_regrown x0
              have X1r := cell_regrown x1
              have X2r := cell_regrown x2
              have X3r := cell_regrown x3
              have X4r := cell_regrown x4
              have X5r := cell_regrown x5
              clear x0 x1 x2 x3 x4 x5
              obtain ⟨y0, y1, y2, y3, y4, y5⟩ := cells6 (RXb2.out _ hb17)
              have Y0r := cell_regrown y0
              have Y1r := cell_regrown y1
              have Y2r := cell_regrown y2
              have Y3r := cell_regrown y3
              have Y4r := cell_regrown y4
              have Y5r := cell_regrown y5
              clear y0 y1 y2 y3 y4 y5
              have s1 := Lib.hid (SO17.out.below f17 (Nat.le_refl _)).regrown
              have t1 := Lib.hid (SN17.out.below f17 (Nat.le_refl _)).regrown
              have s2 := Lib.hid (SOb2.out.below hb17 (Nat.le_refl _)).regrown
              have t2 := Lib.hid (SNb2.out.below hb17 (Nat.le_refl _)).regrown
              have TT := Lib.hid (below_step PB2.out hb17)
              clear f17 hb17
              refine Loose.wp_region_quiet_fast (by kernel_rfl) (by kernel_rfl) ?_
              (try simp only [List.append_eq, List.cons_append, List.nil_append])
              repeat (go_big_quiet_step (fail))
              go_big_quiet_step ((go_at_call 12; exact Calls.regrown_of (Ref_val (Ck.mk gb' epb' lb' vb' odb' lnb') xo17 xl17 _ (s1.out _ _) (t1.out _ _))))
              repeat (go_big_quiet_step (fail))
              go_big_quiet_step ((go_at_call 12; exact Calls.regrown_of (Ref_val (Ck.mk gb' epb' lb' vb' odb' lnb') uob ulb _ (s2.out _ _) (t2.out _ _))))
              repeat (go_big_quiet_step (fail))
              go_big_quiet_step ((go_at_call 19; exact Calls.regrown_of (Same_any (Ck.mk gb' epb' lb' vb' odb' lnb') (Ck.mk gb' epb' lb' vb' odb' lnb') xo17 xl17 uob ulb _ KCb.out (s1.out _ _) (t1.out _ _) (s2.out _ _) (t2.out _ _) true (Lib.hid (sameB_refl _).symm))))
              repeat (go_big_quiet_step (fail))
              go_big_quiet_step ((go_at_call 20; exact Calls.regrown_of (fixed_val _)))
              repeat (go_big_quiet_step (fail))
              refine wpQuiet_nil ?_
              intro _ hw'
              obtain ⟨⟨dq, osq⟩, hw''⟩ := hw'
              subst hw''
              go_wp2_with fail
              go_ret
              exact ⟨rfl, below_step TT.out (below_regrown _ dq osq)⟩
        · have HAc := Lib.hid hAc
          clear hAc
          have h0 := Below.refl W2.heap.size W2
          obtain ⟨z0, z1, z2, z3, z4, z5⟩ := cells6 (RXa2.out _ h0)
          go_wp2_with fail
          clear z0 z1 z2 z3 z4 z5
          refine (Encode_val (Ck.mk ga' epa' la' va' oda' lna') uoa ula _ KCa.out (SOa2.out.below h0 (Nat.le_refl _)) (SNa2.out.below h0 (Nat.le_refl _)) ⟨#[]⟩ 5 (Lib.hid (if_neg HAa.out).symm) (Lib.hid (if_neg HAa.out).symm)).mono ?_; rintro e w3 ⟨rfl, h3⟩
          obtain ⟨z0, z1, z2, z3, z4, z5⟩ := cells6 (RXb2.out _ h3)
          go_wp2_with fail
          clear z0 z1 z2 z3 z4 z5
          refine (Encode_val (Ck.mk gb' epb' lb' vb' odb' lnb') uob ulb _ KCb.out (SOb2.out.below h3 (Nat.le_refl _)) (SNb2.out.below h3 (Nat.le_refl _)) zb 0 Hzb (Lib.hid (if_pos HAb.out).symm)).mono ?_; rintro e w4 ⟨rfl, hb⟩
          have h4 := below_step h3 hb
          clear hb h3
          obtain ⟨z0, z1, z2, z3, z4, z5⟩ := cells6 (RXc2.out _ h4)
          go_wp2_with fail
          clear z0 z1 z2 z3 z4 z5
          refine (Encode_val (Ck.mk gc' epc' lc' vc' odc' lnc') uoc ulc _ KCc.out (SOc2.out.below h4 (Nat.le_refl _)) (SNc2.out.below h4 (Nat.le_refl _)) ⟨#[]⟩ 5 (Lib.hid (if_neg HAc.out).symm) (Lib.hid (if_neg HAc.out).symm)).mono ?_; rintro e w5 ⟨rfl, hb⟩
          have h5 := below_step h4 hb
          clear hb h4 h0
          obtain ⟨a0, a1, a2, a3, a4, a5⟩ := cells6 (RXa2.out _ h5)
          obtain ⟨b0, b1, b2, b3, b4, b5⟩ := cells6 (RXb2.out _ h5)
          obtain ⟨c0, c1, c2, c3, c4, c5⟩ := cells6 (RXc2.out _ h5)
          clear a1 a2 a3 a4 a5 b1 b2 b3 b4 b5 c1 c2 c3 c4 c5
          obtain ⟨zs, hzs⟩ : ∃ z, z = zeros128 := ⟨_, rfl⟩
          have hss : zs.size = 128 := by rw [hzs]; rfl
          have qs : ((zs.size : Int) != 128) = false := by rw [bne, beq_iff_eq.2 (show (zs.size : Int) = 128 by omega)]; rfl
          have HSS := Lib.hid hss
          clear hss
          have HZS := Lib.hid hzs
          clear hzs
          go_wp2_with fail
          refine (Zero_val _ zs HZS).mono ?_; rintro e wz ⟨rfl, rfl⟩
          go_wp2_with fail
          refine (fixed_val _).mono ?_; rintro e w6 ⟨rfl, h6⟩
          go_wp2_with fail
          go_ret
          exact ⟨rfl, below_step PB2.out (below_step h5 h6)⟩
      · have HAa := Lib.hid hAa
        clear hAa
        have HAb := Lib.hid hAb
        clear hAb
        by_cases hAc : (Ck.mk gc' epc' lc' vc' odc' lnc').Right
        · have HAc := Lib.hid hAc
          clear hAc
          obtain ⟨zc, hz⟩ : ∃ z, z = (Ck.mk gc' epc' lc' vc' odc' lnc').out := ⟨_, rfl⟩
          have Hzc := Lib.hid hz
          clear hz
          have h0 := Below.refl W2.heap.size W2
          obtain ⟨z0, z1, z2, z3, z4, z5⟩ := cells6 (RXa2.out _ h0)
          go_wp2_with fail
          clear z0 z1 z2 z3 z4 z5
          refine (Encode_val (Ck.mk ga' epa' la' va' oda' lna') uoa ula _ KCa.out (SOa2.out.below h0 (Nat.le_refl _)) (SNa2.out.below h0 (Nat.le_refl _)) ⟨#[]⟩ 5 (Lib.hid (if_neg HAa.out).symm) (Lib.hid (if_neg HAa.out).symm)).mono ?_; rintro e w3 ⟨rfl, h3⟩
          obtain ⟨z0, z1, z2, z3, z4, z5⟩ := cells6 (RXb2.out _ h3)
          go_wp2_with fail
          clear z0 z1 z2 z3 z4 z5
          refine (Encode_val (Ck.mk gb' epb' lb' vb' odb' lnb') uob ulb _ KCb.out (SOb2.out.below h3 (Nat.le_refl _)) (SNb2.out.below h3 (Nat.le_refl _)) ⟨#[]⟩ 5 (Lib.hid (if_neg HAb.out).symm) (Lib.hid (if_neg HAb.out).symm)).mono ?_; rintro e w4 ⟨rfl, hb⟩
          have h4 := below_step h3 hb
          clear hb h3
          obtain ⟨z0, z1, z2, z3, z4, z5⟩ := cells6 (RXc2.out _ h4)
          go_wp2_with fail
          clear z0 z1 z2 z3 z4 z5
          refine (Encode_val (Ck.mk gc' epc' lc' vc' odc' lnc') uoc ulc _ KCc.out (SOc2.out.below h4 (Nat.le_refl _)) (SNc2.out.below h4 (Nat.le_refl _)) zc 0 Hzc (Lib.hid (if_pos HAc.out).symm)).mono ?_; rintro e w5 ⟨rfl, hb⟩
          have h5 := below_step h4 hb
          clear hb h4 h0
          obtain ⟨a0, a1, a2, a3, a4, a5⟩ := cells6 (RXa2.out _ h5)
          obtain ⟨b0, b1, b2, b3, b4, b5⟩ := cells6 (RXb2.out _ h5)
          obtain ⟨c0, c1, c2, c3, c4, c5⟩ := cells6 (RXc2.out _ h5)
          clear a1 a2 a3 a4 a5 b1 b2 b3 b4 b5 c1 c2 c3 c4 c5
          obtain ⟨zs, hzs⟩ : ∃ z, z = zeros128 := ⟨_, rfl⟩
          have hss : zs.size = 128 := by rw [hzs]; rfl
          have qs : ((zs.size : Int) != 128) = false := by rw [bne, beq_iff_eq.2 (show (zs.size : Int) = 128 by omega)]; rfl
          have HSS := Lib.hid hss
          clear hss
          have hcs : zc.size = 128 := by rw [Hzc.out]; exact out_size _ HAc.out
          have qc : ((zc.size : Int) != 128) = false := by rw [bne, beq_iff_eq.2 (show (zc.size : Int) = 128 by omega)]; rfl
          have qc2 : ((zc.size : Int) == 128) = true := beq_iff_eq.2 (by omega)
          have HCS := Lib.hid hcs
          clear hcs
          have HZS := Lib.hid hzs
          clear hzs
          go_wp2_with fail
          refine (Zero_val _ zs HZS).mono ?_; rintro e wz ⟨rfl, rfl⟩
          go_wp2_with fail
          refine (fixed_val _).mono ?_; rintro e w6 ⟨rfl, h6⟩
          go_wp2_with fail
          go_ret
          exact ⟨rfl, below_step PB2.out (below_step h5 h6)⟩
        · have HAc := Lib.hid hAc
          clear hAc
          have h0 := Below.refl W2.heap.size W2
          obtain ⟨z0, z1, z2, z3, z4, z5⟩ := cells6 (RXa2.out _ h0)
          go_wp2_with fail
          clear z0 z1 z2 z3 z4 z5
          refine (Encode_val (Ck.mk ga' epa' la' va' oda' lna') uoa ula _ KCa.out (SOa2.out.below h0 (Nat.le_refl _)) (SNa2.out.below h0 (Nat.le_refl _)) ⟨#[]⟩ 5 (Lib.hid (if_neg HAa.out).symm) (Lib.hid (if_neg HAa.out).symm)).mono ?_; rintro e w3 ⟨rfl, h3⟩
          obtain ⟨z0, z1, z2, z3, z4, z5⟩ := cells6 (RXb2.out _ h3)
          go_wp2_with fail
          clear z0 z1 z2 z3 z4 z5
          refine (Encode_val (Ck.mk gb' epb' lb' vb' odb' lnb') uob ulb _ KCb.out (SOb2.out.below h3 (Nat.le_refl _)) (SNb2.out.below h3 (Nat.le_refl _)) ⟨#[]⟩ 5 (Lib.hid (if_neg HAb.out).symm) (Lib.hid (if_neg HAb.out).symm)).mono ?_; rintro e w4 ⟨rfl, hb⟩
          have h4 := below_step h3 hb
          clear hb h3
          obtain ⟨z0, z1, z2, z3, z4, z5⟩ := cells6 (RXc2.out _ h4)
          go_wp2_with fail
          clear z0 z1 z2 z3 z4 z5
          refine (Encode_val (Ck.mk gc' epc' lc' vc' odc' lnc') uoc ulc _ KCc.out (SOc2.out.below h4 (Nat.le_refl _)) (SNc2.out.below h4 (Nat.le_refl _)) ⟨#[]⟩ 5 (Lib.hid (if_neg HAc.out).symm) (Lib.hid (if_neg HAc.out).symm)).mono ?_; rintro e w5 ⟨rfl, hb⟩
          have h5 := below_step h4 hb
          clear hb h4 h0
          obtain ⟨a0, a1, a2, a3, a4, a5⟩ := cells6 (RXa2.out _ h5)
          obtain ⟨b0, b1, b2, b3, b4, b5⟩ := cells6 (RXb2.out _ h5)
          obtain ⟨c0, c1, c2, c3, c4, c5⟩ := cells6 (RXc2.out _ h5)
          clear a1 a2 a3 a4 a5 b1 b2 b3 b4 b5 c1 c2 c3 c4 c5
          obtain ⟨zs, hzs⟩ : ∃ z, z = zeros128 := ⟨_, rfl⟩
          have hss : zs.size = 128 := by rw [hzs]; rfl
          have qs : ((zs.size : Int) != 128) = false := by rw [bne, beq_iff_eq.2 (show (zs.size : Int) = 128 by omega)]; rfl
          have HSS := Lib.hid hss
          clear hss
          have HZS := Lib.hid hzs
          clear hzs
          go_wp2_with fail
          refine (Zero_val _ zs HZS).mono ?_; rintro e wz ⟨rfl, rfl⟩
          go_wp2_with fail
          refine (fixed_val _).mono ?_; rintro e w6 ⟨rfl, h6⟩
          go_wp2_with fail
          go_ret
          exact ⟨rfl, below_step PB2.out (below_step h5 h6)⟩

theorem CkptTorn_walk (v0 v1 v2 : Value) (w : World) (o0 : Row.Opn Try.prog w 26 v0) (o1 : Row.Opn Try.prog w 26 v1) (o2 : Row.Opn Try.prog w 49 v2) :
    Calls Try.prog 5 #[v0, v1, v2] w fun e w' => e = .returned (.bool true) ∧ Below w.heap.size w w' := by
  obtain ⟨ca, voa, vla, rfl, hka, hoa, hla⟩ := open_check o0
  obtain ⟨cb, vob, vlb, rfl, hkb, hob, hlb⟩ := open_check o1
  obtain ⟨cc, voc, vlc, p, rfl, hkc, hoc, hlc, hp⟩ := open_third o2
  exact torn_main ca voa vla cb vob vlb cc voc vlc p w hka hoa hla hkb hob hlb hkc hoc hlc hp
end Go.Proofs.Ytieijelbflkpeaa.L
