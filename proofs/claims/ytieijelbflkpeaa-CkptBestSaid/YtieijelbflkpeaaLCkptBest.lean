/- CkptBest: whatever the checkpoints, the law answers true. No condition. -/
import Derived.Test.YtieijelbflkpeaaGCkY
import Derived.Test.YtieijelbflkpeaaGFast
namespace Go.Proofs.Ytieijelbflkpeaa.L
open Go.RowKit Go.Proofs.Ytieijelbflkpeaa.G Go.Proofs.Ytieijelbflkpeaa.Loose Go.Proofs.Ytieijelbflkpeaa.CrcPlain Go.Proofs.Ytieijelbflkpeaa.WordPlain
set_option linter.unusedVariables false
set_option linter.unusedSimpArgs false

theorem max2u {P : Program} (ats : Array TypeId) (ty : TypeId) (a b : Int) (W : World) : (Builtin.max_ ats ty #[.int .u64 a, .int .u64 b]).run P W = .ok (.int .u64 (max a b)) W := by
  have h : ∀ x y : Int, (if x < y then y else x) = max x y := by intro x y; split <;> omega
  simp [Builtin.max_, Builtin.max2, List.foldlM_cons, List.foldlM_nil, h]
theorem best_lt (c d : Ck) (hc : c.Kind) (hd : d.Kind) (rc : c.Right) (rd : d.Right) (h : c.gen < d.gen) (s t : ByteArray) (es : s = c.out) (et : t = d.out) : bestC s t = d ∧ bestI s t = 1 ∧ bestE s t = 0 := by
  subst es et
  obtain ⟨a1, a2⟩ := dec_out _ hc rc
  obtain ⟨b1, b2⟩ := dec_out _ hd rd
  have hy : bestY c.out d.out := ⟨b1, Or.inr (by rw [a2, b2]; exact h)⟩
  exact ⟨(if_pos hy).trans b2, if_pos hy, if_pos (Or.inl a1)⟩
theorem best_ge (c d : Ck) (hc : c.Kind) (hd : d.Kind) (rc : c.Right) (rd : d.Right) (h : ¬ c.gen < d.gen) (s t : ByteArray) (es : s = c.out) (et : t = d.out) : bestC s t = c ∧ bestI s t = 0 ∧ bestE s t = 0 := by
  subst es et
  obtain ⟨a1, a2⟩ := dec_out _ hc rc
  obtain ⟨b1, b2⟩ := dec_out _ hd rd
  have hy : ¬ bestY c.out d.out := fun h2 => h2.2.elim (fun h3 => h3 a1) (by rw [a2, b2]; exact h)
  exact ⟨(if_neg hy).trans a2, if_neg hy, if_pos (Or.inl a1)⟩
theorem best_alone (c : Ck) (hc : c.Kind) (rc : c.Right) (s : ByteArray) (es : s = c.out) : bestC s ⟨#[]⟩ = c ∧ bestI s ⟨#[]⟩ = 0 ∧ bestE s ⟨#[]⟩ = 0 := by
  subst es
  obtain ⟨a1, a2⟩ := dec_out _ hc rc
  have hy : ¬ bestY c.out ⟨#[]⟩ := fun h2 => none_not h2.1
  exact ⟨(if_neg hy).trans a2, if_neg hy, if_pos (Or.inl a1)⟩

set_option maxRecDepth 100000 in
set_option maxHeartbeats 4000000 in
theorem best_main (ca : Ck) (voa vla : Value) (cb : Ck) (vob vlb : Value) (w : World) (hka : ca.Kind) (hoa : Sl w voa ca.order) (hla : Sl w vla ca.lens) (hkb : cb.Kind) (hob : Sl w vob cb.order) (hlb : Sl w vlb cb.lens) :
    Calls Try.prog 6 #[ca.val voa vla, cb.val vob vlb] w fun e w' => e = .returned (.bool true) ∧ Below w.heap.size w w' := by
  obtain ⟨uoa, ula, sua, sla, cuta⟩ := Cut_val ca voa vla w hoa hla
  have kca := hka.cut
  obtain ⟨da, hd⟩ : ∃ c, c = ca.cut := ⟨_, rfl⟩
  rw [← hd] at sua sla cuta kca
  clear hd
  obtain ⟨oaa, capa, rfl⟩ := hoa.form
  obtain ⟨oba, cbpa, rfl⟩ := hla.form
  obtain ⟨paa, dapa, rfl⟩ := sua.form
  obtain ⟨pba, dbpa, rfl⟩ := sla.form
  clear hoa hla hka
  obtain ⟨ga, epa, la, va, oda, lna⟩ := ca
  obtain ⟨ga', epa', la', va', oda', lna'⟩ := da
  simp only [Ck.val] at cuta sua sla ⊢
  obtain ⟨ma, hm⟩ : ∃ m, m = oda.length := ⟨_, rfl⟩
  simp only [← hm] at cuta ⊢
  clear hm
  obtain ⟨na, hm⟩ : ∃ m, m = lna.length := ⟨_, rfl⟩
  simp only [← hm] at cuta ⊢
  clear hm
  obtain ⟨ra, hra⟩ : ∃ m, m = oda'.length := ⟨_, rfl⟩
  simp only [← hra] at cuta sua ⊢
  obtain ⟨sa, hsa⟩ : ∃ m, m = lna'.length := ⟨_, rfl⟩
  simp only [← hsa] at cuta sla ⊢
  have HRa := Lib.hid hra
  have HSa := Lib.hid hsa
  have SUa := Lib.hid sua
  have SLa := Lib.hid sla
  have CUTa := Lib.hid cuta
  have KCa := Lib.hid kca
  clear hra hsa sua sla cuta kca
  obtain ⟨uob, ulb, sub, slb, cutb⟩ := Cut_val cb vob vlb w hob hlb
  have kcb := hkb.cut
  obtain ⟨db, hd⟩ : ∃ c, c = cb.cut := ⟨_, rfl⟩
  rw [← hd] at sub slb cutb kcb
  clear hd
  obtain ⟨oab, capb, rfl⟩ := hob.form
  obtain ⟨obb, cbpb, rfl⟩ := hlb.form
  obtain ⟨pab, dapb, rfl⟩ := sub.form
  obtain ⟨pbb, dbpb, rfl⟩ := slb.form
  clear hob hlb hkb
  obtain ⟨gb, epb, lb, vb, odb, lnb⟩ := cb
  obtain ⟨gb', epb', lb', vb', odb', lnb'⟩ := db
  simp only [Ck.val] at cutb sub slb ⊢
  obtain ⟨mb, hm⟩ : ∃ m, m = odb.length := ⟨_, rfl⟩
  simp only [← hm] at cutb ⊢
  clear hm
  obtain ⟨nb, hm⟩ : ∃ m, m = lnb.length := ⟨_, rfl⟩
  simp only [← hm] at cutb ⊢
  clear hm
  obtain ⟨rb, hrb⟩ : ∃ m, m = odb'.length := ⟨_, rfl⟩
  simp only [← hrb] at cutb sub ⊢
  obtain ⟨sb, hsb⟩ : ∃ m, m = lnb'.length := ⟨_, rfl⟩
  simp only [← hsb] at cutb slb ⊢
  have HRb := Lib.hid hrb
  have HSb := Lib.hid hsb
  have SUb := Lib.hid sub
  have SLb := Lib.hid slb
  have CUTb := Lib.hid cutb
  have KCb := Lib.hid kcb
  clear hrb hsb sub slb cutb kcb
  go_enter Try.func6, Try.ntmps6
  obtain ⟨W0, hW0⟩ : ∃ x, x = ((w.alloc (.cells #[.int .u64 ga, .int .u32 epa, .int .u64 la, .int .u64 va, .slice oaa ma capa, .slice oba na cbpa] 26)).alloc (.cells #[.int .u64 gb, .int .u32 epb, .int .u64 lb, .int .u64 vb, .slice oab mb capb, .slice obb nb cbpb] 26)) := ⟨_, rfl⟩
  obtain ⟨xa0, xb0, pb0, _⟩ := two_new w (.cells #[.int .u64 ga, .int .u32 epa, .int .u64 la, .int .u64 va, .slice oaa ma capa, .slice oba na cbpa] 26) (.cells #[.int .u64 gb, .int .u32 epb, .int .u64 lb, .int .u64 vb, .slice oab mb capb, .slice obb nb cbpb] 26)
  rw [← hW0] at xa0 xb0 pb0
  have Xa0 := Lib.hid xa0
  have Xb0 := Lib.hid xb0
  have PB0 := Lib.hid pb0
  have HW0 := Lib.hid hW0
  clear pb0 hW0 xa0 xb0
  go_wp2_with fail
  rw [← HW0.out]
  refine (CUTa.out _).mono ?_; rintro e w1 ⟨rfl, hb⟩
  have ya := (hb.block _ (lt_of_row Xa0.out)).trans Xa0.out
  have yb := (hb.block _ (lt_of_row Xb0.out)).trans Xb0.out
  have pb := below_step PB0.out hb
  clear hb
  have OLD := Lib.hid ya
  have ONE : Hid ((#[.int .u64 ga', .int .u32 epa', .int .u64 la', .int .u64 va', .slice paa ra dapa, .slice pba sa dbpa] : Array Value).all (·.oneCell') = true) := Lib.hid (by simp [Value.oneCell'])
  obtain ⟨W1, hW⟩ : ∃ z, z = w1.setRow w.heap.size #[.int .u64 ga', .int .u32 epa', .int .u64 la', .int .u64 va', .slice paa ra dapa, .slice pba sa dbpa] := ⟨_, rfl⟩
  have pb' := pb.setRow (show w.heap.size ≤ w.heap.size by omega) #[.int .u64 ga', .int .u32 epa', .int .u64 la', .int .u64 va', .slice paa ra dapa, .slice pba sa dbpa]
  rw [← hW] at pb'
  have Xa1 := Lib.hid (setRow_heap w1 w.heap.size _ #[.int .u64 ga', .int .u32 epa', .int .u64 la', .int .u64 va', .slice paa ra dapa, .slice pba sa dbpa] _ _ ya)
  have Xb1 := Lib.hid ((setRow_other w1 w.heap.size (w.heap.size + 1) #[.int .u64 ga', .int .u32 epa', .int .u64 la', .int .u64 va', .slice paa ra dapa, .slice pba sa dbpa] (by omega)).trans yb)
  simp only [← hW] at Xa1 Xb1
  have PB1 := Lib.hid pb'
  have HW := Lib.hid hW
  clear pb pb' hW ya yb
  obtain ⟨z0, z1, z2, z3, z4, z5⟩ := cells6 Xb1.out
  rw [HW.out] at z0 z1 z2 z3 z4 z5
  go_wp2_with (refine wpList_store_row rfl 26 _ _ rfl w.heap.size #[.int .u64 ga', .int .u32 epa', .int .u64 la', .int .u64 va', .slice paa ra dapa, .slice pba sa dbpa] rfl rfl _ _ OLD.out (by kernel_rfl) rfl ONE.out ?_)
  rw [← HW.out]
  clear z0 z1 z2 z3 z4 z5 OLD ONE HW
  refine (CUTb.out _).mono ?_; rintro e w2 ⟨rfl, hb⟩
  have ya := (hb.block _ (lt_of_row Xa1.out)).trans Xa1.out
  have yb := (hb.block _ (lt_of_row Xb1.out)).trans Xb1.out
  have pb := below_step PB1.out hb
  clear hb
  have OLD := Lib.hid yb
  have ONE : Hid ((#[.int .u64 gb', .int .u32 epb', .int .u64 lb', .int .u64 vb', .slice pab rb dapb, .slice pbb sb dbpb] : Array Value).all (·.oneCell') = true) := Lib.hid (by simp [Value.oneCell'])
  obtain ⟨W2, hW⟩ : ∃ z, z = w2.setRow (w.heap.size + 1) #[.int .u64 gb', .int .u32 epb', .int .u64 lb', .int .u64 vb', .slice pab rb dapb, .slice pbb sb dbpb] := ⟨_, rfl⟩
  have pb' := pb.setRow (show w.heap.size ≤ (w.heap.size + 1) by omega) #[.int .u64 gb', .int .u32 epb', .int .u64 lb', .int .u64 vb', .slice pab rb dapb, .slice pbb sb dbpb]
  rw [← hW] at pb'
  have Xa2 := Lib.hid ((setRow_other w2 (w.heap.size + 1) w.heap.size #[.int .u64 gb', .int .u32 epb', .int .u64 lb', .int .u64 vb', .slice pab rb dapb, .slice pbb sb dbpb] (by omega)).trans ya)
  have Xb2 := Lib.hid (setRow_heap w2 (w.heap.size + 1) _ #[.int .u64 gb', .int .u32 epb', .int .u64 lb', .int .u64 vb', .slice pab rb dapb, .slice pbb sb dbpb] _ _ yb)
  simp only [← hW] at Xa2 Xb2
  have PB2 := Lib.hid pb'
  have HW := Lib.hid hW
  clear pb pb' hW ya yb
  obtain ⟨z0, z1, z2, z3, z4, z5⟩ := cells6 Xa2.out
  rw [HW.out] at z0 z1 z2 z3 z4 z5
  go_wp2_with (refine wpList_store_row rfl 26 _ _ rfl (w.heap.size + 1) #[.int .u64 gb', .int .u32 epb', .int .u64 lb', .int .u64 vb', .slice pab rb dapb, .slice pbb sb dbpb] rfl rfl _ _ OLD.out (by kernel_rfl) rfl ONE.out ?_)
  rw [← HW.out]
  clear z0 z1 z2 z3 z4 z5 OLD ONE HW
  obtain ⟨W, hW⟩ : ∃ z, z = W2 := ⟨_, rfl⟩
  rw [← hW] at PB2 Xa2 Xb2 ⊢
  clear hW
  have PB := PB2
  obtain ⟨Ab, hAb⟩ : ∃ z, z = (w.heap.size + 1) := ⟨_, rfl⟩
  simp only [← hAb] at Xb2 ⊢
  obtain ⟨Aa, hAa⟩ : ∃ z, z = w.heap.size := ⟨_, rfl⟩
  simp only [← hAa] at Xa2 ⊢
  clear hAa hAb
  have su := SUa.out.below PB.out (Nat.le_refl _)
  have sl := SLa.out.below PB.out (Nat.le_refl _)
  obtain ⟨uoa, ho⟩ : ∃ z, z = Value.slice paa ra dapa := ⟨_, rfl⟩
  obtain ⟨ula, hl⟩ : ∃ z, z = Value.slice pba sa dbpa := ⟨_, rfl⟩
  have xr := Xa2.out
  simp only [← ho, ← hl] at su sl xr ⊢
  clear ho hl
  have SOa := Lib.hid su
  have SNa := Lib.hid sl
  have RXa : Hid (∀ V, Below W.heap.size W V → V.heap[Aa]? = some (.cells #[.int .u64 ga', .int .u32 epa', .int .u64 la', .int .u64 va', uoa, ula] 26 (0, 0))) := Lib.hid (fun V h => (h.block _ (lt_of_row xr)).trans xr)
  clear su sl xr
  have su := SUb.out.below PB.out (Nat.le_refl _)
  have sl := SLb.out.below PB.out (Nat.le_refl _)
  obtain ⟨uob, ho⟩ : ∃ z, z = Value.slice pab rb dapb := ⟨_, rfl⟩
  obtain ⟨ulb, hl⟩ : ∃ z, z = Value.slice pbb sb dbpb := ⟨_, rfl⟩
  have xr := Xb2.out
  simp only [← ho, ← hl] at su sl xr ⊢
  clear ho hl
  have SOb := Lib.hid su
  have SNb := Lib.hid sl
  have RXb : Hid (∀ V, Below W.heap.size W V → V.heap[Ab]? = some (.cells #[.int .u64 gb', .int .u32 epb', .int .u64 lb', .int .u64 vb', uob, ulb] 26 (0, 0))) := Lib.hid (fun V h => (h.block _ (lt_of_row xr)).trans xr)
  clear su sl xr
  clear SUa SLa CUTa SUb SLb CUTb Xa0 Xa1 Xa2 Xb0 Xb1 Xb2 PB0 PB1 PB2 HW0
  by_cases hAa : (Ck.mk ga' epa' la' va' oda' lna').Right
  · by_cases hAb : (Ck.mk gb' epb' lb' vb' odb' lnb').Right
    · have HAa := Lib.hid hAa
      clear hAa
      obtain ⟨za, hz⟩ : ∃ z, z = (Ck.mk ga' epa' la' va' oda' lna').out := ⟨_, rfl⟩
      have Hza := Lib.hid hz
      clear hz
      have HAb := Lib.hid hAb
      clear hAb
      obtain ⟨zb, hz⟩ : ∃ z, z = (Ck.mk gb' epb' lb' vb' odb' lnb').out := ⟨_, rfl⟩
      have Hzb := Lib.hid hz
      clear hz
      by_cases hg : ga' < gb'
      · have hza := Hza.out
        have hzb := Hzb.out
        have e1 := fun V => Best_val za zb V
        obtain ⟨q1, q2, q3⟩ := best_lt (Ck.mk ga' epa' la' va' oda' lna') (Ck.mk gb' epb' lb' vb' odb' lnb') KCa.out KCb.out HAa.out HAb.out hg za zb hza hzb
        rw [q1, q2, q3] at e1
        simp only [Ck.val] at e1
        have E1 := Lib.hid e1
        clear e1 q1 q2 q3
        have e2 := fun V => Best_val zb za V
        obtain ⟨q1, q2, q3⟩ := best_ge (Ck.mk gb' epb' lb' vb' odb' lnb') (Ck.mk ga' epa' la' va' oda' lna') KCb.out KCa.out HAb.out HAa.out (show ¬ gb' < ga' by omega) zb za hzb hza
        rw [q1, q2, q3] at e2
        simp only [Ck.val] at e2
        have E2 := Lib.hid e2
        clear e2 q1 q2 q3
        have e3 := fun V => Best_val za ⟨#[]⟩ V
        obtain ⟨q1, q2, q3⟩ := best_alone (Ck.mk ga' epa' la' va' oda' lna') KCa.out HAa.out za hza
        rw [q1, q2, q3] at e3
        simp only [Ck.val] at e3
        have E3 := Lib.hid e3
        clear e3 q1 q2 q3
        clear hza hzb
        have qg : ((ga' : Int) == (gb' : Int)) = false := beq_eq_false_iff_ne.2 (by omega)
        have qm : ∀ V, (Builtin.max_ #[22, 22] 22 #[.int .u64 (ga' : Int), .int .u64 (gb' : Int)]).run Try.prog V = .ok (.int .u64 (gb' : Int)) V := by
          intro V
          rw [max2u, show max (ga' : Int) (gb' : Int) = (gb' : Int) from by omega]
        have qx : max (ga' : Int) (gb' : Int) = (gb' : Int) := by omega
        have HG := Lib.hid hg
        clear hg
        have hbE := Below.refl W.heap.size W
        refine (Encode_val (Ck.mk ga' epa' la' va' oda' lna') uoa ula W KCa.out (SOa.out.below hbE (Nat.le_refl _)) (SNa.out.below hbE (Nat.le_refl _)) za 0 Hza (Lib.hid (if_pos HAa.out).symm)).mono ?_; rintro e w3 ⟨rfl, hb3⟩
        clear hbE
        obtain ⟨z0, z1, z2, z3, z4, z5⟩ := cells6 (RXb.out _ hb3)
        go_wp2_with fail
        clear z0 z1 z2 z3 z4 z5
        have hbE := hb3
        refine (Encode_val (Ck.mk gb' epb' lb' vb' odb' lnb') uob ulb _ KCb.out (SOb.out.below hbE (Nat.le_refl _)) (SNb.out.below hbE (Nat.le_refl _)) zb 0 Hzb (Lib.hid (if_pos HAb.out).symm)).mono ?_; rintro e w4 ⟨rfl, hb⟩
        have hb4 := below_step hb3 hb
        clear hb hb3 hbE
        go_wp2_with fail
        refine (E1.out _).mono ?_; rintro e w9 ⟨⟨xo9, xl9, rfl, ho, hl⟩, hb⟩
        obtain ⟨qa, qp, rfl⟩ := ho.form
        obtain ⟨qb, qq, rfl⟩ := hl.form
        obtain ⟨na, hna⟩ : ∃ m, m = (odb' : List Int).length := ⟨_, rfl⟩
        obtain ⟨nb, hnb⟩ : ∃ m, m = (lnb' : List Int).length := ⟨_, rfl⟩
        replace ho : Sl w9 (.slice qa na qp) odb' := by rw [hna]; exact ho
        replace hl : Sl w9 (.slice qb nb qq) lnb' := by rw [hnb]; exact hl
        have hbb := below_step hb4 hb
        clear hb
        have HO := Lib.hid ho
        have HL := Lib.hid hl
        clear ho hl
        simp only [← hna, ← hnb]
        clear hna hnb
        go_wp2_with fail
        obtain ⟨X9, hX⟩ : ∃ x, x = w9.heap.size := ⟨_, rfl⟩
        have m9 := heap_alloc_new w9 (.cells #[.int .u64 gb', .int .u32 epb', .int .u64 lb', .int .u64 vb', .slice qa na qp, .slice qb nb qq] 26)
        have mb := (Below.refl w9.heap.size w9).alloc (Nat.le_refl _) (.cells #[.int .u64 gb', .int .u32 epb', .int .u64 lb', .int .u64 vb', .slice qa na qp, .slice qb nb qq] 26)
        obtain ⟨W9, hW⟩ : ∃ x, x = w9.alloc (.cells #[.int .u64 gb', .int .u32 epb', .int .u64 lb', .int .u64 vb', .slice qa na qp, .slice qb nb qq] 26) := ⟨_, rfl⟩
        simp only [← hX, ← hW] at m9 mb ⊢
        rw [hX] at mb
        have hb9 := below_step hbb mb
        have HO9 := HO.out.below mb (Nat.le_refl _)
        have HL9 := HL.out.below mb (Nat.le_refl _)
        obtain ⟨xo9, hxo⟩ : ∃ v, v = Value.slice qa na qp := ⟨_, rfl⟩
        obtain ⟨xl9, hxl⟩ : ∃ v, v = Value.slice qb nb qq := ⟨_, rfl⟩
        simp only [← hxo, ← hxl] at HO9 HL9 m9 ⊢
        clear hX hW mb hbb HO HL hxo hxl
        have RX9 : Hid (∀ V, Below W9.heap.size W9 V → V.heap[X9]? = some (.cells #[.int .u64 gb', .int .u32 epb', .int .u64 lb', .int .u64 vb', xo9, xl9] 26 (0, 0))) := Lib.hid (fun V h => (h.block _ (lt_of_row m9)).trans m9)
        have SO9 : Hid (Sl W9 xo9 odb') := Lib.hid HO9
        have SN9 : Hid (Sl W9 xl9 lnb') := Lib.hid HL9
        clear m9 HO9 HL9
        clear hb4
        have q9 := Below.refl W9.heap.size W9
        refine (E2.out _).mono ?_; rintro e w12 ⟨⟨xo12, xl12, rfl, ho, hl⟩, hb⟩
        obtain ⟨qa, qp, rfl⟩ := ho.form
        obtain ⟨qb, qq, rfl⟩ := hl.form
        obtain ⟨na, hna⟩ : ∃ m, m = (odb' : List Int).length := ⟨_, rfl⟩
        obtain ⟨nb, hnb⟩ : ∃ m, m = (lnb' : List Int).length := ⟨_, rfl⟩
        replace ho : Sl w12 (.slice qa na qp) odb' := by rw [hna]; exact ho
        replace hl : Sl w12 (.slice qb nb qq) lnb' := by rw [hnb]; exact hl
        have hbb := below_step q9 hb
        clear hb
        have HO := Lib.hid ho
        have HL := Lib.hid hl
        clear ho hl
        simp only [← hna, ← hnb]
        clear hna hnb
        go_wp2_with fail
        obtain ⟨X12, hX⟩ : ∃ x, x = w12.heap.size := ⟨_, rfl⟩
        have m12 := heap_alloc_new w12 (.cells #[.int .u64 gb', .int .u32 epb', .int .u64 lb', .int .u64 vb', .slice qa na qp, .slice qb nb qq] 26)
        have mb := (Below.refl w12.heap.size w12).alloc (Nat.le_refl _) (.cells #[.int .u64 gb', .int .u32 epb', .int .u64 lb', .int .u64 vb', .slice qa na qp, .slice qb nb qq] 26)
        obtain ⟨W12, hW⟩ : ∃ x, x = w12.alloc (.cells #[.int .u64 gb', .int .u32 epb', .int .u64 lb', .int .u64 vb', .slice qa na qp, .slice qb nb qq] 26) := ⟨_, rfl⟩
        simp only [← hX, ← hW] at m12 mb ⊢
        rw [hX] at mb
        have hb12 := below_step hbb mb
        have HO12 := HO.out.below mb (Nat.le_refl _)
        have HL12 := HL.out.below mb (Nat.le_refl _)
        obtain ⟨xo12, hxo⟩ : ∃ v, v = Value.slice qa na qp := ⟨_, rfl⟩
        obtain ⟨xl12, hxl⟩ : ∃ v, v = Value.slice qb nb qq := ⟨_, rfl⟩
        simp only [← hxo, ← hxl] at HO12 HL12 m12 ⊢
        clear hX hW mb hbb HO HL hxo hxl
        have RX12 : Hid (∀ V, Below W12.heap.size W12 V → V.heap[X12]? = some (.cells #[.int .u64 gb', .int .u32 epb', .int .u64 lb', .int .u64 vb', xo12, xl12] 26 (0, 0))) := Lib.hid (fun V h => (h.block _ (lt_of_row m12)).trans m12)
        have SO12 : Hid (Sl W12 xo12 odb') := Lib.hid HO12
        have SN12 : Hid (Sl W12 xl12 lnb') := Lib.hid HL12
        clear m12 HO12 HL12
        clear q9
        have q12 := Below.refl W12.heap.size W12
        refine (E3.out _).mono ?_; rintro e w15 ⟨⟨xo15, xl15, rfl, ho, hl⟩, hb⟩
        obtain ⟨qa, qp, rfl⟩ := ho.form
        obtain ⟨qb, qq, rfl⟩ := hl.form
        obtain ⟨na, hna⟩ : ∃ m, m = (oda' : List Int).length := ⟨_, rfl⟩
        obtain ⟨nb, hnb⟩ : ∃ m, m = (lna' : List Int).length := ⟨_, rfl⟩
        replace ho : Sl w15 (.slice qa na qp) oda' := by rw [hna]; exact ho
        replace hl : Sl w15 (.slice qb nb qq) lna' := by rw [hnb]; exact hl
        have hbb := below_step q12 hb
        clear hb
        have HO := Lib.hid ho
        have HL := Lib.hid hl
        clear ho hl
        simp only [← hna, ← hnb]
        clear hna hnb
        go_wp2_with fail
        obtain ⟨X15, hX⟩ : ∃ x, x = w15.heap.size := ⟨_, rfl⟩
        have m15 := heap_alloc_new w15 (.cells #[.int .u64 ga', .int .u32 epa', .int .u64 la', .int .u64 va', .slice qa na qp, .slice qb nb qq] 26)
        have mb := (Below.refl w15.heap.size w15).alloc (Nat.le_refl _) (.cells #[.int .u64 ga', .int .u32 epa', .int .u64 la', .int .u64 va', .slice qa na qp, .slice qb nb qq] 26)
        obtain ⟨W15, hW⟩ : ∃ x, x = w15.alloc (.cells #[.int .u64 ga', .int .u32 epa', .int .u64 la', .int .u64 va', .slice qa na qp, .slice qb nb qq] 26) := ⟨_, rfl⟩
        simp only [← hX, ← hW] at m15 mb ⊢
        rw [hX] at mb
        have hb15 := below_step hbb mb
        have HO15 := HO.out.below mb (Nat.le_refl _)
        have HL15 := HL.out.below mb (Nat.le_refl _)
        obtain ⟨xo15, hxo⟩ : ∃ v, v = Value.slice qa na qp := ⟨_, rfl⟩
        obtain ⟨xl15, hxl⟩ : ∃ v, v = Value.slice qb nb qq := ⟨_, rfl⟩
        simp only [← hxo, ← hxl] at HO15 HL15 m15 ⊢
        clear hX hW mb hbb HO HL hxo hxl
        have RX15 : Hid (∀ V, Below W15.heap.size W15 V → V.heap[X15]? = some (.cells #[.int .u64 ga', .int .u32 epa', .int .u64 la', .int .u64 va', xo15, xl15] 26 (0, 0))) := Lib.hid (fun V h => (h.block _ (lt_of_row m15)).trans m15)
        have SO15 : Hid (Sl W15 xo15 oda') := Lib.hid HO15
        have SN15 : Hid (Sl W15 xl15 lna') := Lib.hid HL15
        clear m15 HO15 HL15
        clear q12
        have f15 := Below.refl W15.heap.size W15
        have f9 := below_step hb12 hb15
        have fW := below_step hb9 f9
        obtain ⟨x0, x1, x2, x3, x4, x5⟩ := cells6 (RX15.out _ f15)
        have X0r := cell_regrown x0
        have X1r := cell_regrown x1
        have X2r := cell_regrown x2
        have X3r := cell_regrown x3
        have X4r := cell_regrown x4
        have X5r := cell_regrown x5
        clear x0 x1 x2 x3 x4 x5
        obtain ⟨c0, c1, c2, c3, c4, c5⟩ := cells6 (RXa.out _ fW)
        have C0r := cell_regrown c0
        have C1r := cell_regrown c1
        have C2r := cell_regrown c2
        have C3r := cell_regrown c3
        have C4r := cell_regrown c4
        have C5r := cell_regrown c5
        clear c0 c1 c2 c3 c4 c5
        have s1 := Lib.hid (SO15.out.below f15 (Nat.le_refl _)).regrown
        have t1 := Lib.hid (SN15.out.below f15 (Nat.le_refl _)).regrown
        have s2 := Lib.hid (SOa.out.below fW (Nat.le_refl _)).regrown
        have t2 := Lib.hid (SNa.out.below fW (Nat.le_refl _)).regrown
        go_wp2_with fail
        refine Loose.wp_region_quiet_fast (by kernel_rfl) (by kernel_rfl) ?_
        (try simp only [List.append_eq, List.cons_append, List.nil_append])
        repeat (go_big_quiet_step (fail))
        go_big_quiet_step ((go_at_call 12; exact Calls.regrown_of (Ref_val (Ck.mk ga' epa' la' va' oda' lna') xo15 xl15 _ (s1.out _ _) (t1.out _ _))))
        repeat (go_big_quiet_step (fail))
        go_big_quiet_step ((go_at_call 12; exact Calls.regrown_of (Ref_val (Ck.mk ga' epa' la' va' oda' lna') uoa ula _ (s2.out _ _) (t2.out _ _))))
        repeat (go_big_quiet_step (fail))
        go_big_quiet_step ((go_at_call 19; exact Calls.regrown_of (Same_any (Ck.mk ga' epa' la' va' oda' lna') (Ck.mk ga' epa' la' va' oda' lna') xo15 xl15 uoa ula _ KCa.out (s1.out _ _) (t1.out _ _) (s2.out _ _) (t2.out _ _) true (Lib.hid (sameB_refl _).symm))))
        repeat (go_big_quiet_step (fail))
        refine wpQuiet_nil ?_
        intro _ hw'
        obtain ⟨⟨dq, osq⟩, hw''⟩ := hw'
        subst hw''
        obtain ⟨Wq, hWq⟩ : ∃ z, z = Sort.grow (redrawn W15 dq) osq := ⟨_, rfl⟩
        have hbq := below_regrown W15 dq osq
        rw [← hWq] at hbq ⊢
        clear hWq X0r X1r X2r X3r X4r X5r C0r C1r C2r C3r C4r C5r s1 t1 s2 t2 dq osq
        have g12 := below_step hb15 hbq
        have g9 := below_step hb12 g12
        have gW := below_step hb9 g9
        clear f15 f9 fW hb15 hb12 hb9 hbq
        obtain ⟨c0, c1, c2, c3, c4, c5⟩ := cells6 (RXa.out _ gW)
        obtain ⟨d0, d1, d2, d3, d4, d5⟩ := cells6 (RXb.out _ gW)
        go_wp2_with fail
        obtain ⟨x0, x1, x2, x3, x4, x5⟩ := cells6 (RX9.out _ g9)
        have X0r := cell_regrown x0
        have X1r := cell_regrown x1
        have X2r := cell_regrown x2
        have X3r := cell_regrown x3
        have X4r := cell_regrown x4
        have X5r := cell_regrown x5
        clear x0 x1 x2 x3 x4 x5
        obtain ⟨y0, y1, y2, y3, y4, y5⟩ := cells6 (RX12.out _ g12)
        have Y0r := cell_regrown y0
        have Y1r := cell_regrown y1
        have Y2r := cell_regrown y2
        have Y3r := cell_regrown y3
        have Y4r := cell_regrown y4
        have Y5r := cell_regrown y5
        clear y0 y1 y2 y3 y4 y5
        have C0r := cell_regrown c0
        have C1r := cell_regrown c1
        have C2r := cell_regrown c2
        have C3r := cell_regrown c3
        have C4r := cell_regrown c4
        have C5r := cell_regrown c5
        clear c0 c1 c2 c3 c4 c5
        have D0r := cell_regrown d0
        have D1r := cell_regrown d1
        have D2r := cell_regrown d2
        have D3r := cell_regrown d3
        have D4r := cell_regrown d4
        have D5r := cell_regrown d5
        clear d0 d1 d2 d3 d4 d5
        have s1 := Lib.hid (SO9.out.below g9 (Nat.le_refl _)).regrown
        have t1 := Lib.hid (SN9.out.below g9 (Nat.le_refl _)).regrown
        have s2 := Lib.hid (SO12.out.below g12 (Nat.le_refl _)).regrown
        have t2 := Lib.hid (SN12.out.below g12 (Nat.le_refl _)).regrown
        have TT := Lib.hid (below_step PB.out gW)
        clear g12 g9 gW
        refine Loose.wp_region_quiet_fast (by kernel_rfl) (by kernel_rfl) ?_
        (try simp only [List.append_eq, List.cons_append, List.nil_append])
        repeat (go_big_quiet_step (fail))
        go_big_quiet_step ((go_at_call 12; exact Calls.regrown_of (Ref_val (Ck.mk gb' epb' lb' vb' odb' lnb') xo9 xl9 _ (s1.out _ _) (t1.out _ _))))
        repeat (go_big_quiet_step (fail))
        go_big_quiet_step ((go_at_call 12; exact Calls.regrown_of (Ref_val (Ck.mk gb' epb' lb' vb' odb' lnb') xo12 xl12 _ (s2.out _ _) (t2.out _ _))))
        repeat (go_big_quiet_step (fail))
        go_big_quiet_step ((go_at_call 19; exact Calls.regrown_of (Same_any (Ck.mk gb' epb' lb' vb' odb' lnb') (Ck.mk gb' epb' lb' vb' odb' lnb') xo9 xl9 xo12 xl12 _ KCb.out (s1.out _ _) (t1.out _ _) (s2.out _ _) (t2.out _ _) true (Lib.hid (sameB_refl _).symm))))
        repeat (go_big_quiet_step (fail))
        go_big_quiet_step ((go_at_call 20; exact Calls.regrown_of (fixed_val _)))
        repeat (go_big_quiet_step (fail))
        refine wpQuiet_nil ?_
        intro _ hw'
        obtain ⟨⟨dq, osq⟩, hw''⟩ := hw'
        subst hw''
        go_wp2_with fail
        go_ret
        exact ⟨rfl, below_step TT.out (below_regrown _ dq osq)⟩
      · by_cases hne : ga' = gb'
        · have hza := Hza.out
          have hzb := Hzb.out
          have e1 := fun V => Best_val za zb V
          obtain ⟨q1, q2, q3⟩ := best_ge (Ck.mk ga' epa' la' va' oda' lna') (Ck.mk gb' epb' lb' vb' odb' lnb') KCa.out KCb.out HAa.out HAb.out hg za zb hza hzb
          rw [q1, q2, q3] at e1
          simp only [Ck.val] at e1
          have E1 := Lib.hid e1
          clear e1 q1 q2 q3
          have e2 := fun V => Best_val zb za V
          obtain ⟨q1, q2, q3⟩ := best_ge (Ck.mk gb' epb' lb' vb' odb' lnb') (Ck.mk ga' epa' la' va' oda' lna') KCb.out KCa.out HAb.out HAa.out (show ¬ gb' < ga' by omega) zb za hzb hza
          rw [q1, q2, q3] at e2
          simp only [Ck.val] at e2
          have E2 := Lib.hid e2
          clear e2 q1 q2 q3
          have e3 := fun V => Best_val za ⟨#[]⟩ V
          obtain ⟨q1, q2, q3⟩ := best_alone (Ck.mk ga' epa' la' va' oda' lna') KCa.out HAa.out za hza
          rw [q1, q2, q3] at e3
          simp only [Ck.val] at e3
          have E3 := Lib.hid e3
          clear e3 q1 q2 q3
          clear hza hzb
          have qg : ((ga' : Int) == (gb' : Int)) = true := beq_iff_eq.2 (by omega)
          have HG := Lib.hid hg
          clear hg hne
          have hbE := Below.refl W.heap.size W
          refine (Encode_val (Ck.mk ga' epa' la' va' oda' lna') uoa ula W KCa.out (SOa.out.below hbE (Nat.le_refl _)) (SNa.out.below hbE (Nat.le_refl _)) za 0 Hza (Lib.hid (if_pos HAa.out).symm)).mono ?_; rintro e w3 ⟨rfl, hb3⟩
          clear hbE
          obtain ⟨z0, z1, z2, z3, z4, z5⟩ := cells6 (RXb.out _ hb3)
          go_wp2_with fail
          clear z0 z1 z2 z3 z4 z5
          have hbE := hb3
          refine (Encode_val (Ck.mk gb' epb' lb' vb' odb' lnb') uob ulb _ KCb.out (SOb.out.below hbE (Nat.le_refl _)) (SNb.out.below hbE (Nat.le_refl _)) zb 0 Hzb (Lib.hid (if_pos HAb.out).symm)).mono ?_; rintro e w4 ⟨rfl, hb⟩
          have hb4 := below_step hb3 hb
          clear hb hb3 hbE
          go_wp2_with fail
          refine (E1.out _).mono ?_; rintro e w9 ⟨⟨xo9, xl9, rfl, ho, hl⟩, hb⟩
          obtain ⟨qa, qp, rfl⟩ := ho.form
          obtain ⟨qb, qq, rfl⟩ := hl.form
          obtain ⟨na, hna⟩ : ∃ m, m = (oda' : List Int).length := ⟨_, rfl⟩
          obtain ⟨nb, hnb⟩ : ∃ m, m = (lna' : List Int).length := ⟨_, rfl⟩
          replace ho : Sl w9 (.slice qa na qp) oda' := by rw [hna]; exact ho
          replace hl : Sl w9 (.slice qb nb qq) lna' := by rw [hnb]; exact hl
          have hbb := below_step hb4 hb
          clear hb
          have HO := Lib.hid ho
          have HL := Lib.hid hl
          clear ho hl
          simp only [← hna, ← hnb]
          clear hna hnb
          go_wp2_with fail
          obtain ⟨X9, hX⟩ : ∃ x, x = w9.heap.size := ⟨_, rfl⟩
          have m9 := heap_alloc_new w9 (.cells #[.int .u64 ga', .int .u32 epa', .int .u64 la', .int .u64 va', .slice qa na qp, .slice qb nb qq] 26)
          have mb := (Below.refl w9.heap.size w9).alloc (Nat.le_refl _) (.cells #[.int .u64 ga', .int .u32 epa', .int .u64 la', .int .u64 va', .slice qa na qp, .slice qb nb qq] 26)
          obtain ⟨W9, hW⟩ : ∃ x, x = w9.alloc (.cells #[.int .u64 ga', .int .u32 epa', .int .u64 la', .int .u64 va', .slice qa na qp, .slice qb nb qq] 26) := ⟨_, rfl⟩
          simp only [← hX, ← hW] at m9 mb ⊢
          rw [hX] at mb
          have hb9 := below_step hbb mb
          have HO9 := HO.out.below mb (Nat.le_refl _)
          have HL9 := HL.out.below mb (Nat.le_refl _)
          obtain ⟨xo9, hxo⟩ : ∃ v, v = Value.slice qa na qp := ⟨_, rfl⟩
          obtain ⟨xl9, hxl⟩ : ∃ v, v = Value.slice qb nb qq := ⟨_, rfl⟩
          simp only [← hxo, ← hxl] at HO9 HL9 m9 ⊢
          clear hX hW mb hbb HO HL hxo hxl
          have RX9 : Hid (∀ V, Below W9.heap.size W9 V → V.heap[X9]? = some (.cells #[.int .u64 ga', .int .u32 epa', .int .u64 la', .int .u64 va', xo9, xl9] 26 (0, 0))) := Lib.hid (fun V h => (h.block _ (lt_of_row m9)).trans m9)
          have SO9 : Hid (Sl W9 xo9 oda') := Lib.hid HO9
          have SN9 : Hid (Sl W9 xl9 lna') := Lib.hid HL9
          clear m9 HO9 HL9
          clear hb4
          have q9 := Below.refl W9.heap.size W9
          refine (E2.out _).mono ?_; rintro e w12 ⟨⟨xo12, xl12, rfl, ho, hl⟩, hb⟩
          obtain ⟨qa, qp, rfl⟩ := ho.form
          obtain ⟨qb, qq, rfl⟩ := hl.form
          obtain ⟨na, hna⟩ : ∃ m, m = (odb' : List Int).length := ⟨_, rfl⟩
          obtain ⟨nb, hnb⟩ : ∃ m, m = (lnb' : List Int).length := ⟨_, rfl⟩
          replace ho : Sl w12 (.slice qa na qp) odb' := by rw [hna]; exact ho
          replace hl : Sl w12 (.slice qb nb qq) lnb' := by rw [hnb]; exact hl
          have hbb := below_step q9 hb
          clear hb
          have HO := Lib.hid ho
          have HL := Lib.hid hl
          clear ho hl
          simp only [← hna, ← hnb]
          clear hna hnb
          go_wp2_with fail
          obtain ⟨X12, hX⟩ : ∃ x, x = w12.heap.size := ⟨_, rfl⟩
          have m12 := heap_alloc_new w12 (.cells #[.int .u64 gb', .int .u32 epb', .int .u64 lb', .int .u64 vb', .slice qa na qp, .slice qb nb qq] 26)
          have mb := (Below.refl w12.heap.size w12).alloc (Nat.le_refl _) (.cells #[.int .u64 gb', .int .u32 epb', .int .u64 lb', .int .u64 vb', .slice qa na qp, .slice qb nb qq] 26)
          obtain ⟨W12, hW⟩ : ∃ x, x = w12.alloc (.cells #[.int .u64 gb', .int .u32 epb', .int .u64 lb', .int .u64 vb', .slice qa na qp, .slice qb nb qq] 26) := ⟨_, rfl⟩
          simp only [← hX, ← hW] at m12 mb ⊢
          rw [hX] at mb
          have hb12 := below_step hbb mb
          have HO12 := HO.out.below mb (Nat.le_refl _)
          have HL12 := HL.out.below mb (Nat.le_refl _)
          obtain ⟨xo12, hxo⟩ : ∃ v, v = Value.slice qa na qp := ⟨_, rfl⟩
          obtain ⟨xl12, hxl⟩ : ∃ v, v = Value.slice qb nb qq := ⟨_, rfl⟩
          simp only [← hxo, ← hxl] at HO12 HL12 m12 ⊢
          clear hX hW mb hbb HO HL hxo hxl
          have RX12 : Hid (∀ V, Below W12.heap.size W12 V → V.heap[X12]? = some (.cells #[.int .u64 gb', .int .u32 epb', .int .u64 lb', .int .u64 vb', xo12, xl12] 26 (0, 0))) := Lib.hid (fun V h => (h.block _ (lt_of_row m12)).trans m12)
          have SO12 : Hid (Sl W12 xo12 odb') := Lib.hid HO12
          have SN12 : Hid (Sl W12 xl12 lnb') := Lib.hid HL12
          clear m12 HO12 HL12
          clear q9
          have q12 := Below.refl W12.heap.size W12
          refine (E3.out _).mono ?_; rintro e w15 ⟨⟨xo15, xl15, rfl, ho, hl⟩, hb⟩
          obtain ⟨qa, qp, rfl⟩ := ho.form
          obtain ⟨qb, qq, rfl⟩ := hl.form
          obtain ⟨na, hna⟩ : ∃ m, m = (oda' : List Int).length := ⟨_, rfl⟩
          obtain ⟨nb, hnb⟩ : ∃ m, m = (lna' : List Int).length := ⟨_, rfl⟩
          replace ho : Sl w15 (.slice qa na qp) oda' := by rw [hna]; exact ho
          replace hl : Sl w15 (.slice qb nb qq) lna' := by rw [hnb]; exact hl
          have hbb := below_step q12 hb
          clear hb
          have HO := Lib.hid ho
          have HL := Lib.hid hl
          clear ho hl
          simp only [← hna, ← hnb]
          clear hna hnb
          go_wp2_with fail
          obtain ⟨X15, hX⟩ : ∃ x, x = w15.heap.size := ⟨_, rfl⟩
          have m15 := heap_alloc_new w15 (.cells #[.int .u64 ga', .int .u32 epa', .int .u64 la', .int .u64 va', .slice qa na qp, .slice qb nb qq] 26)
          have mb := (Below.refl w15.heap.size w15).alloc (Nat.le_refl _) (.cells #[.int .u64 ga', .int .u32 epa', .int .u64 la', .int .u64 va', .slice qa na qp, .slice qb nb qq] 26)
          obtain ⟨W15, hW⟩ : ∃ x, x = w15.alloc (.cells #[.int .u64 ga', .int .u32 epa', .int .u64 la', .int .u64 va', .slice qa na qp, .slice qb nb qq] 26) := ⟨_, rfl⟩
          simp only [← hX, ← hW] at m15 mb ⊢
          rw [hX] at mb
          have hb15 := below_step hbb mb
          have HO15 := HO.out.below mb (Nat.le_refl _)
          have HL15 := HL.out.below mb (Nat.le_refl _)
          obtain ⟨xo15, hxo⟩ : ∃ v, v = Value.slice qa na qp := ⟨_, rfl⟩
          obtain ⟨xl15, hxl⟩ : ∃ v, v = Value.slice qb nb qq := ⟨_, rfl⟩
          simp only [← hxo, ← hxl] at HO15 HL15 m15 ⊢
          clear hX hW mb hbb HO HL hxo hxl
          have RX15 : Hid (∀ V, Below W15.heap.size W15 V → V.heap[X15]? = some (.cells #[.int .u64 ga', .int .u32 epa', .int .u64 la', .int .u64 va', xo15, xl15] 26 (0, 0))) := Lib.hid (fun V h => (h.block _ (lt_of_row m15)).trans m15)
          have SO15 : Hid (Sl W15 xo15 oda') := Lib.hid HO15
          have SN15 : Hid (Sl W15 xl15 lna') := Lib.hid HL15
          clear m15 HO15 HL15
          clear q12
          have f15 := Below.refl W15.heap.size W15
          have f9 := below_step hb12 hb15
          have fW := below_step hb9 f9
          obtain ⟨x0, x1, x2, x3, x4, x5⟩ := cells6 (RX15.out _ f15)
          have X0r := cell_regrown x0
          have X1r := cell_regrown x1
          have X2r := cell_regrown x2
          have X3r := cell_regrown x3
          have X4r := cell_regrown x4
          have X5r := cell_regrown x5
          clear x0 x1 x2 x3 x4 x5
          obtain ⟨c0, c1, c2, c3, c4, c5⟩ := cells6 (RXa.out _ fW)
          have C0r := cell_regrown c0
          have C1r := cell_regrown c1
          have C2r := cell_regrown c2
          have C3r := cell_regrown c3
          have C4r := cell_regrown c4
          have C5r := cell_regrown c5
          clear c0 c1 c2 c3 c4 c5
          have s1 := Lib.hid (SO15.out.below f15 (Nat.le_refl _)).regrown
          have t1 := Lib.hid (SN15.out.below f15 (Nat.le_refl _)).regrown
          have s2 := Lib.hid (SOa.out.below fW (Nat.le_refl _)).regrown
          have t2 := Lib.hid (SNa.out.below fW (Nat.le_refl _)).regrown
          go_wp2_with fail
          refine Loose.wp_region_quiet_fast (by kernel_rfl) (by kernel_rfl) ?_
          (try simp only [List.append_eq, List.cons_append, List.nil_append])
          repeat (go_big_quiet_step (fail))
          go_big_quiet_step ((go_at_call 12; exact Calls.regrown_of (Ref_val (Ck.mk ga' epa' la' va' oda' lna') xo15 xl15 _ (s1.out _ _) (t1.out _ _))))
          repeat (go_big_quiet_step (fail))
          go_big_quiet_step ((go_at_call 12; exact Calls.regrown_of (Ref_val (Ck.mk ga' epa' la' va' oda' lna') uoa ula _ (s2.out _ _) (t2.out _ _))))
          repeat (go_big_quiet_step (fail))
          go_big_quiet_step ((go_at_call 19; exact Calls.regrown_of (Same_any (Ck.mk ga' epa' la' va' oda' lna') (Ck.mk ga' epa' la' va' oda' lna') xo15 xl15 uoa ula _ KCa.out (s1.out _ _) (t1.out _ _) (s2.out _ _) (t2.out _ _) true (Lib.hid (sameB_refl _).symm))))
          repeat (go_big_quiet_step (fail))
          refine wpQuiet_nil ?_
          intro _ hw'
          obtain ⟨⟨dq, osq⟩, hw''⟩ := hw'
          subst hw''
          obtain ⟨Wq, hWq⟩ : ∃ z, z = Sort.grow (redrawn W15 dq) osq := ⟨_, rfl⟩
          have hbq := below_regrown W15 dq osq
          rw [← hWq] at hbq ⊢
          clear hWq X0r X1r X2r X3r X4r X5r C0r C1r C2r C3r C4r C5r s1 t1 s2 t2 dq osq
          have g12 := below_step hb15 hbq
          have g9 := below_step hb12 g12
          have gW := below_step hb9 g9
          clear f15 f9 fW hb15 hb12 hb9 hbq
          obtain ⟨c0, c1, c2, c3, c4, c5⟩ := cells6 (RXa.out _ gW)
          obtain ⟨d0, d1, d2, d3, d4, d5⟩ := cells6 (RXb.out _ gW)
          go_wp2_with fail
          obtain ⟨x0, x1, x2, x3, x4, x5⟩ := cells6 (RX9.out _ g9)
          have X0r := cell_regrown x0
          have X1r := cell_regrown x1
          have X2r := cell_regrown x2
          have X3r := cell_regrown x3
          have X4r := cell_regrown x4
          have X5r := cell_regrown x5
          clear x0 x1 x2 x3 x4 x5
          obtain ⟨y0, y1, y2, y3, y4, y5⟩ := cells6 (RX12.out _ g12)
          have Y0r := cell_regrown y0
          have Y1r := cell_regrown y1
          have Y2r := cell_regrown y2
          have Y3r := cell_regrown y3
          have Y4r := cell_regrown y4
          have Y5r := cell_regrown y5
          clear y0 y1 y2 y3 y4 y5
          have C0r := cell_regrown c0
          have C1r := cell_regrown c1
          have C2r := cell_regrown c2
          have C3r := cell_regrown c3
          have C4r := cell_regrown c4
          have C5r := cell_regrown c5
          clear c0 c1 c2 c3 c4 c5
          have D0r := cell_regrown d0
          have D1r := cell_regrown d1
          have D2r := cell_regrown d2
          have D3r := cell_regrown d3
          have D4r := cell_regrown d4
          have D5r := cell_regrown d5
          clear d0 d1 d2 d3 d4 d5
          have s1 := Lib.hid (SO9.out.below g9 (Nat.le_refl _)).regrown
          have t1 := Lib.hid (SN9.out.below g9 (Nat.le_refl _)).regrown
          have s2 := Lib.hid (SO12.out.below g12 (Nat.le_refl _)).regrown
          have t2 := Lib.hid (SN12.out.below g12 (Nat.le_refl _)).regrown
          have s3 := Lib.hid (SOa.out.below gW (Nat.le_refl _)).regrown
          have t3 := Lib.hid (SNa.out.below gW (Nat.le_refl _)).regrown
          have s4 := Lib.hid (SOb.out.below gW (Nat.le_refl _)).regrown
          have t4 := Lib.hid (SNb.out.below gW (Nat.le_refl _)).regrown
          have TT := Lib.hid (below_step PB.out gW)
          clear g12 g9 gW
          refine Loose.wp_region_quiet_fast (by kernel_rfl) (by kernel_rfl) ?_
          (try simp only [List.append_eq, List.cons_append, List.nil_append])
          repeat (go_big_quiet_step (fail))
          go_big_quiet_step ((go_at_call 12; exact Calls.regrown_of (Ref_val (Ck.mk ga' epa' la' va' oda' lna') xo9 xl9 _ (s1.out _ _) (t1.out _ _))))
          repeat (go_big_quiet_step (fail))
          go_big_quiet_step ((go_at_call 12; exact Calls.regrown_of (Ref_val (Ck.mk ga' epa' la' va' oda' lna') uoa ula _ (s3.out _ _) (t3.out _ _))))
          repeat (go_big_quiet_step (fail))
          go_big_quiet_step ((go_at_call 19; exact Calls.regrown_of (Same_any (Ck.mk ga' epa' la' va' oda' lna') (Ck.mk ga' epa' la' va' oda' lna') xo9 xl9 uoa ula _ KCa.out (s1.out _ _) (t1.out _ _) (s3.out _ _) (t3.out _ _) true (Lib.hid (sameB_refl _).symm))))
          repeat (go_big_quiet_step (fail))
          go_big_quiet_step ((go_at_call 12; exact Calls.regrown_of (Ref_val (Ck.mk gb' epb' lb' vb' odb' lnb') xo12 xl12 _ (s2.out _ _) (t2.out _ _))))
          repeat (go_big_quiet_step (fail))
          go_big_quiet_step ((go_at_call 12; exact Calls.regrown_of (Ref_val (Ck.mk gb' epb' lb' vb' odb' lnb') uob ulb _ (s4.out _ _) (t4.out _ _))))
          repeat (go_big_quiet_step (fail))
          go_big_quiet_step ((go_at_call 19; exact Calls.regrown_of (Same_any (Ck.mk gb' epb' lb' vb' odb' lnb') (Ck.mk gb' epb' lb' vb' odb' lnb') xo12 xl12 uob ulb _ KCb.out (s2.out _ _) (t2.out _ _) (s4.out _ _) (t4.out _ _) true (Lib.hid (sameB_refl _).symm))))
          repeat (go_big_quiet_step (fail))
          go_big_quiet_step ((go_at_call 20; exact Calls.regrown_of (fixed_val _)))
          repeat (go_big_quiet_step (fail))
          refine wpQuiet_nil ?_
          intro _ hw'
          obtain ⟨⟨dq, osq⟩, hw''⟩ := hw'
          subst hw''
          go_wp2_with fail
          go_ret
          exact ⟨rfl, below_step TT.out (below_regrown _ dq osq)⟩
        · have hza := Hza.out
          have hzb := Hzb.out
          have e1 := fun V => Best_val za zb V
          obtain ⟨q1, q2, q3⟩ := best_ge (Ck.mk ga' epa' la' va' oda' lna') (Ck.mk gb' epb' lb' vb' odb' lnb') KCa.out KCb.out HAa.out HAb.out hg za zb hza hzb
          rw [q1, q2, q3] at e1
          simp only [Ck.val] at e1
          have E1 := Lib.hid e1
          clear e1 q1 q2 q3
          have e2 := fun V => Best_val zb za V
          obtain ⟨q1, q2, q3⟩ := best_lt (Ck.mk gb' epb' lb' vb' odb' lnb') (Ck.mk ga' epa' la' va' oda' lna') KCb.out KCa.out HAb.out HAa.out (show gb' < ga' by omega) zb za hzb hza
          rw [q1, q2, q3] at e2
          simp only [Ck.val] at e2
          have E2 := Lib.hid e2
          clear e2 q1 q2 q3
          have e3 := fun V => Best_val za ⟨#[]⟩ V
          obtain ⟨q1, q2, q3⟩ := best_alone (Ck.mk ga' epa' la' va' oda' lna') KCa.out HAa.out za hza
          rw [q1, q2, q3] at e3
          simp only [Ck.val] at e3
          have E3 := Lib.hid e3
          clear e3 q1 q2 q3
          clear hza hzb
          have qg : ((ga' : Int) == (gb' : Int)) = false := beq_eq_false_iff_ne.2 (by omega)
          have qm : ∀ V, (Builtin.max_ #[22, 22] 22 #[.int .u64 (ga' : Int), .int .u64 (gb' : Int)]).run Try.prog V = .ok (.int .u64 (ga' : Int)) V := by
            intro V
            rw [max2u, show max (ga' : Int) (gb' : Int) = (ga' : Int) from by omega]
          have qx : max (ga' : Int) (gb' : Int) = (ga' : Int) := by omega
          have HG := Lib.hid hg
          clear hg hne
          have hbE := Below.refl W.heap.size W
          refine (Encode_val (Ck.mk ga' epa' la' va' oda' lna') uoa ula W KCa.out (SOa.out.below hbE (Nat.le_refl _)) (SNa.out.below hbE (Nat.le_refl _)) za 0 Hza (Lib.hid (if_pos HAa.out).symm)).mono ?_; rintro e w3 ⟨rfl, hb3⟩
          clear hbE
          obtain ⟨z0, z1, z2, z3, z4, z5⟩ := cells6 (RXb.out _ hb3)
          go_wp2_with fail
          clear z0 z1 z2 z3 z4 z5
          have hbE := hb3
          refine (Encode_val (Ck.mk gb' epb' lb' vb' odb' lnb') uob ulb _ KCb.out (SOb.out.below hbE (Nat.le_refl _)) (SNb.out.below hbE (Nat.le_refl _)) zb 0 Hzb (Lib.hid (if_pos HAb.out).symm)).mono ?_; rintro e w4 ⟨rfl, hb⟩
          have hb4 := below_step hb3 hb
          clear hb hb3 hbE
          go_wp2_with fail
          refine (E1.out _).mono ?_; rintro e w9 ⟨⟨xo9, xl9, rfl, ho, hl⟩, hb⟩
          obtain ⟨qa, qp, rfl⟩ := ho.form
          obtain ⟨qb, qq, rfl⟩ := hl.form
          obtain ⟨na, hna⟩ : ∃ m, m = (oda' : List Int).length := ⟨_, rfl⟩
          obtain ⟨nb, hnb⟩ : ∃ m, m = (lna' : List Int).length := ⟨_, rfl⟩
          replace ho : Sl w9 (.slice qa na qp) oda' := by rw [hna]; exact ho
          replace hl : Sl w9 (.slice qb nb qq) lna' := by rw [hnb]; exact hl
          have hbb := below_step hb4 hb
          clear hb
          have HO := Lib.hid ho
          have HL := Lib.hid hl
          clear ho hl
          simp only [← hna, ← hnb]
          clear hna hnb
          go_wp2_with fail
          obtain ⟨X9, hX⟩ : ∃ x, x = w9.heap.size := ⟨_, rfl⟩
          have m9 := heap_alloc_new w9 (.cells #[.int .u64 ga', .int .u32 epa', .int .u64 la', .int .u64 va', .slice qa na qp, .slice qb nb qq] 26)
          have mb := (Below.refl w9.heap.size w9).alloc (Nat.le_refl _) (.cells #[.int .u64 ga', .int .u32 epa', .int .u64 la', .int .u64 va', .slice qa na qp, .slice qb nb qq] 26)
          obtain ⟨W9, hW⟩ : ∃ x, x = w9.alloc (.cells #[.int .u64 ga', .int .u32 epa', .int .u64 la', .int .u64 va', .slice qa na qp, .slice qb nb qq] 26) := ⟨_, rfl⟩
          simp only [← hX, ← hW] at m9 mb ⊢
          rw [hX] at mb
          have hb9 := below_step hbb mb
          have HO9 := HO.out.below mb (Nat.le_refl _)
          have HL9 := HL.out.below mb (Nat.le_refl _)
          obtain ⟨xo9, hxo⟩ : ∃ v, v = Value.slice qa na qp := ⟨_, rfl⟩
          obtain ⟨xl9, hxl⟩ : ∃ v, v = Value.slice qb nb qq := ⟨_, rfl⟩
          simp only [← hxo, ← hxl] at HO9 HL9 m9 ⊢
          clear hX hW mb hbb HO HL hxo hxl
          have RX9 : Hid (∀ V, Below W9.heap.size W9 V → V.heap[X9]? = some (.cells #[.int .u64 ga', .int .u32 epa', .int .u64 la', .int .u64 va', xo9, xl9] 26 (0, 0))) := Lib.hid (fun V h => (h.block _ (lt_of_row m9)).trans m9)
          have SO9 : Hid (Sl W9 xo9 oda') := Lib.hid HO9
          have SN9 : Hid (Sl W9 xl9 lna') := Lib.hid HL9
          clear m9 HO9 HL9
          clear hb4
          have q9 := Below.refl W9.heap.size W9
          refine (E2.out _).mono ?_; rintro e w12 ⟨⟨xo12, xl12, rfl, ho, hl⟩, hb⟩
          obtain ⟨qa, qp, rfl⟩ := ho.form
          obtain ⟨qb, qq, rfl⟩ := hl.form
          obtain ⟨na, hna⟩ : ∃ m, m = (oda' : List Int).length := ⟨_, rfl⟩
          obtain ⟨nb, hnb⟩ : ∃ m, m = (lna' : List Int).length := ⟨_, rfl⟩
          replace ho : Sl w12 (.slice qa na qp) oda' := by rw [hna]; exact ho
          replace hl : Sl w12 (.slice qb nb qq) lna' := by rw [hnb]; exact hl
          have hbb := below_step q9 hb
          clear hb
          have HO := Lib.hid ho
          have HL := Lib.hid hl
          clear ho hl
          simp only [← hna, ← hnb]
          clear hna hnb
          go_wp2_with fail
          obtain ⟨X12, hX⟩ : ∃ x, x = w12.heap.size := ⟨_, rfl⟩
          have m12 := heap_alloc_new w12 (.cells #[.int .u64 ga', .int .u32 epa', .int .u64 la', .int .u64 va', .slice qa na qp, .slice qb nb qq] 26)
          have mb := (Below.refl w12.heap.size w12).alloc (Nat.le_refl _) (.cells #[.int .u64 ga', .int .u32 epa', .int .u64 la', .int .u64 va', .slice qa na qp, .slice qb nb qq] 26)
          obtain ⟨W12, hW⟩ : ∃ x, x = w12.alloc (.cells #[.int .u64 ga', .int .u32 epa', .int .u64 la', .int .u64 va', .slice qa na qp, .slice qb nb qq] 26) := ⟨_, rfl⟩
          simp only [← hX, ← hW] at m12 mb ⊢
          rw [hX] at mb
          have hb12 := below_step hbb mb
          have HO12 := HO.out.below mb (Nat.le_refl _)
          have HL12 := HL.out.below mb (Nat.le_refl _)
          obtain ⟨xo12, hxo⟩ : ∃ v, v = Value.slice qa na qp := ⟨_, rfl⟩
          obtain ⟨xl12, hxl⟩ : ∃ v, v = Value.slice qb nb qq := ⟨_, rfl⟩
          simp only [← hxo, ← hxl] at HO12 HL12 m12 ⊢
          clear hX hW mb hbb HO HL hxo hxl
          have RX12 : Hid (∀ V, Below W12.heap.size W12 V → V.heap[X12]? = some (.cells #[.int .u64 ga', .int .u32 epa', .int .u64 la', .int .u64 va', xo12, xl12] 26 (0, 0))) := Lib.hid (fun V h => (h.block _ (lt_of_row m12)).trans m12)
          have SO12 : Hid (Sl W12 xo12 oda') := Lib.hid HO12
          have SN12 : Hid (Sl W12 xl12 lna') := Lib.hid HL12
          clear m12 HO12 HL12
          clear q9
          have q12 := Below.refl W12.heap.size W12
          refine (E3.out _).mono ?_; rintro e w15 ⟨⟨xo15, xl15, rfl, ho, hl⟩, hb⟩
          obtain ⟨qa, qp, rfl⟩ := ho.form
          obtain ⟨qb, qq, rfl⟩ := hl.form
          obtain ⟨na, hna⟩ : ∃ m, m = (oda' : List Int).length := ⟨_, rfl⟩
          obtain ⟨nb, hnb⟩ : ∃ m, m = (lna' : List Int).length := ⟨_, rfl⟩
          replace ho : Sl w15 (.slice qa na qp) oda' := by rw [hna]; exact ho
          replace hl : Sl w15 (.slice qb nb qq) lna' := by rw [hnb]; exact hl
          have hbb := below_step q12 hb
          clear hb
          have HO := Lib.hid ho
          have HL := Lib.hid hl
          clear ho hl
          simp only [← hna, ← hnb]
          clear hna hnb
          go_wp2_with fail
          obtain ⟨X15, hX⟩ : ∃ x, x = w15.heap.size := ⟨_, rfl⟩
          have m15 := heap_alloc_new w15 (.cells #[.int .u64 ga', .int .u32 epa', .int .u64 la', .int .u64 va', .slice qa na qp, .slice qb nb qq] 26)
          have mb := (Below.refl w15.heap.size w15).alloc (Nat.le_refl _) (.cells #[.int .u64 ga', .int .u32 epa', .int .u64 la', .int .u64 va', .slice qa na qp, .slice qb nb qq] 26)
          obtain ⟨W15, hW⟩ : ∃ x, x = w15.alloc (.cells #[.int .u64 ga', .int .u32 epa', .int .u64 la', .int .u64 va', .slice qa na qp, .slice qb nb qq] 26) := ⟨_, rfl⟩
          simp only [← hX, ← hW] at m15 mb ⊢
          rw [hX] at mb
          have hb15 := below_step hbb mb
          have HO15 := HO.out.below mb (Nat.le_refl _)
          have HL15 := HL.out.below mb (Nat.le_refl _)
          obtain ⟨xo15, hxo⟩ : ∃ v, v = Value.slice qa na qp := ⟨_, rfl⟩
          obtain ⟨xl15, hxl⟩ : ∃ v, v = Value.slice qb nb qq := ⟨_, rfl⟩
          simp only [← hxo, ← hxl] at HO15 HL15 m15 ⊢
          clear hX hW mb hbb HO HL hxo hxl
          have RX15 : Hid (∀ V, Below W15.heap.size W15 V → V.heap[X15]? = some (.cells #[.int .u64 ga', .int .u32 epa', .int .u64 la', .int .u64 va', xo15, xl15] 26 (0, 0))) := Lib.hid (fun V h => (h.block _ (lt_of_row m15)).trans m15)
          have SO15 : Hid (Sl W15 xo15 oda') := Lib.hid HO15
          have SN15 : Hid (Sl W15 xl15 lna') := Lib.hid HL15
          clear m15 HO15 HL15
          clear q12
          have f15 := Below.refl W15.heap.size W15
          have f9 := below_step hb12 hb15
          have fW := below_step hb9 f9
          obtain ⟨x0, x1, x2, x3, x4, x5⟩ := cells6 (RX15.out _ f15)
          have X0r := cell_regrown x0
          have X1r := cell_regrown x1
          have X2r := cell_regrown x2
          have X3r := cell_regrown x3
          have X4r := cell_regrown x4
          have X5r := cell_regrown x5
          clear x0 x1 x2 x3 x4 x5
          obtain ⟨c0, c1, c2, c3, c4, c5⟩ := cells6 (RXa.out _ fW)
          have C0r := cell_regrown c0
          have C1r := cell_regrown c1
          have C2r := cell_regrown c2
          have C3r := cell_regrown c3
          have C4r := cell_regrown c4
          have C5r := cell_regrown c5
          clear c0 c1 c2 c3 c4 c5
          have s1 := Lib.hid (SO15.out.below f15 (Nat.le_refl _)).regrown
          have t1 := Lib.hid (SN15.out.below f15 (Nat.le_refl _)).regrown
          have s2 := Lib.hid (SOa.out.below fW (Nat.le_refl _)).regrown
          have t2 := Lib.hid (SNa.out.below fW (Nat.le_refl _)).regrown
          go_wp2_with fail
          refine Loose.wp_region_quiet_fast (by kernel_rfl) (by kernel_rfl) ?_
          (try simp only [List.append_eq, List.cons_append, List.nil_append])
          repeat (go_big_quiet_step (fail))
          go_big_quiet_step ((go_at_call 12; exact Calls.regrown_of (Ref_val (Ck.mk ga' epa' la' va' oda' lna') xo15 xl15 _ (s1.out _ _) (t1.out _ _))))
          repeat (go_big_quiet_step (fail))
          go_big_quiet_step ((go_at_call 12; exact Calls.regrown_of (Ref_val (Ck.mk ga' epa' la' va' oda' lna') uoa ula _ (s2.out _ _) (t2.out _ _))))
          repeat (go_big_quiet_step (fail))
          go_big_quiet_step ((go_at_call 19; exact Calls.regrown_of (Same_any (Ck.mk ga' epa' la' va' oda' lna') (Ck.mk ga' epa' la' va' oda' lna') xo15 xl15 uoa ula _ KCa.out (s1.out _ _) (t1.out _ _) (s2.out _ _) (t2.out _ _) true (Lib.hid (sameB_refl _).symm))))
          repeat (go_big_quiet_step (fail))
          refine wpQuiet_nil ?_
          intro _ hw'
          obtain ⟨⟨dq, osq⟩, hw''⟩ := hw'
          subst hw''
          obtain ⟨Wq, hWq⟩ : ∃ z, z = Sort.grow (redrawn W15 dq) osq := ⟨_, rfl⟩
          have hbq := below_regrown W15 dq osq
          rw [← hWq] at hbq ⊢
          clear hWq X0r X1r X2r X3r X4r X5r C0r C1r C2r C3r C4r C5r s1 t1 s2 t2 dq osq
          have g12 := below_step hb15 hbq
          have g9 := below_step hb12 g12
          have gW := below_step hb9 g9
          clear f15 f9 fW hb15 hb12 hb9 hbq
          obtain ⟨c0, c1, c2, c3, c4, c5⟩ := cells6 (RXa.out _ gW)
          obtain ⟨d0, d1, d2, d3, d4, d5⟩ := cells6 (RXb.out _ gW)
          go_wp2_with fail
          obtain ⟨x0, x1, x2, x3, x4, x5⟩ := cells6 (RX9.out _ g9)
          have X0r := cell_regrown x0
          have X1r := cell_regrown x1
          have X2r := cell_regrown x2
          have X3r := cell_regrown x3
          have X4r := cell_regrown x4
          have X5r := cell_regrown x5
          clear x0 x1 x2 x3 x4 x5
          obtain ⟨y0, y1, y2, y3, y4, y5⟩ := cells6 (RX12.out _ g12)
          have Y0r := cell_regrown y0
          have Y1r := cell_regrown y1
          have Y2r := cell_regrown y2
          have Y3r := cell_regrown y3
          have Y4r := cell_regrown y4
          have Y5r := cell_regrown y5
          clear y0 y1 y2 y3 y4 y5
          have C0r := cell_regrown c0
          have C1r := cell_regrown c1
          have C2r := cell_regrown c2
          have C3r := cell_regrown c3
          have C4r := cell_regrown c4
          have C5r := cell_regrown c5
          clear c0 c1 c2 c3 c4 c5
          have D0r := cell_regrown d0
          have D1r := cell_regrown d1
          have D2r := cell_regrown d2
          have D3r := cell_regrown d3
          have D4r := cell_regrown d4
          have D5r := cell_regrown d5
          clear d0 d1 d2 d3 d4 d5
          have s1 := Lib.hid (SO9.out.below g9 (Nat.le_refl _)).regrown
          have t1 := Lib.hid (SN9.out.below g9 (Nat.le_refl _)).regrown
          have s2 := Lib.hid (SO12.out.below g12 (Nat.le_refl _)).regrown
          have t2 := Lib.hid (SN12.out.below g12 (Nat.le_refl _)).regrown
          have TT := Lib.hid (below_step PB.out gW)
          clear g12 g9 gW
          refine Loose.wp_region_quiet_fast (by kernel_rfl) (by kernel_rfl) ?_
          (try simp only [List.append_eq, List.cons_append, List.nil_append])
          repeat (go_big_quiet_step (fail))
          go_big_quiet_step ((go_at_call 12; exact Calls.regrown_of (Ref_val (Ck.mk ga' epa' la' va' oda' lna') xo9 xl9 _ (s1.out _ _) (t1.out _ _))))
          repeat (go_big_quiet_step (fail))
          go_big_quiet_step ((go_at_call 12; exact Calls.regrown_of (Ref_val (Ck.mk ga' epa' la' va' oda' lna') xo12 xl12 _ (s2.out _ _) (t2.out _ _))))
          repeat (go_big_quiet_step (fail))
          go_big_quiet_step ((go_at_call 19; exact Calls.regrown_of (Same_any (Ck.mk ga' epa' la' va' oda' lna') (Ck.mk ga' epa' la' va' oda' lna') xo9 xl9 xo12 xl12 _ KCa.out (s1.out _ _) (t1.out _ _) (s2.out _ _) (t2.out _ _) true (Lib.hid (sameB_refl _).symm))))
          repeat (go_big_quiet_step (fail))
          go_big_quiet_step ((go_at_call 20; exact Calls.regrown_of (fixed_val _)))
          repeat (go_big_quiet_step (fail))
          refine wpQuiet_nil ?_
          intro _ hw'
          obtain ⟨⟨dq, osq⟩, hw''⟩ := hw'
          subst hw''
          go_wp2_with fail
          go_ret
          exact ⟨rfl, below_step TT.out (below_regrown _ dq osq)⟩
    · have HAa := Lib.hid hAa
      clear hAa
      obtain ⟨za, hz⟩ : ∃ z, z = (Ck.mk ga' epa' la' va' oda' lna').out := ⟨_, rfl⟩
      have Hza := Lib.hid hz
      clear hz
      have HAb := Lib.hid hAb
      clear hAb
      have hbE := Below.refl W.heap.size W
      refine (Encode_val (Ck.mk ga' epa' la' va' oda' lna') uoa ula W KCa.out (SOa.out.below hbE (Nat.le_refl _)) (SNa.out.below hbE (Nat.le_refl _)) za 0 Hza (Lib.hid (if_pos HAa.out).symm)).mono ?_; rintro e w3 ⟨rfl, hb3⟩
      clear hbE
      obtain ⟨z0, z1, z2, z3, z4, z5⟩ := cells6 (RXb.out _ hb3)
      go_wp2_with fail
      clear z0 z1 z2 z3 z4 z5
      have hbE := hb3
      refine (Encode_val (Ck.mk gb' epb' lb' vb' odb' lnb') uob ulb _ KCb.out (SOb.out.below hbE (Nat.le_refl _)) (SNb.out.below hbE (Nat.le_refl _)) ⟨#[]⟩ 5 (Lib.hid (if_neg HAb.out).symm) (Lib.hid (if_neg HAb.out).symm)).mono ?_; rintro e w4 ⟨rfl, hb⟩
      have hb4 := below_step hb3 hb
      clear hb hb3 hbE
      have TT := Lib.hid (below_step PB.out hb4)
      clear hb4
      go_wp2_with fail
      refine (fixed_val _).mono ?_; rintro e w5 ⟨rfl, hb5⟩
      go_wp2_with fail
      go_ret
      exact ⟨rfl, below_step TT.out hb5⟩
  · by_cases hAb : (Ck.mk gb' epb' lb' vb' odb' lnb').Right
    · have HAa := Lib.hid hAa
      clear hAa
      have HAb := Lib.hid hAb
      clear hAb
      obtain ⟨zb, hz⟩ : ∃ z, z = (Ck.mk gb' epb' lb' vb' odb' lnb').out := ⟨_, rfl⟩
      have Hzb := Lib.hid hz
      clear hz
      have hbE := Below.refl W.heap.size W
      refine (Encode_val (Ck.mk ga' epa' la' va' oda' lna') uoa ula W KCa.out (SOa.out.below hbE (Nat.le_refl _)) (SNa.out.below hbE (Nat.le_refl _)) ⟨#[]⟩ 5 (Lib.hid (if_neg HAa.out).symm) (Lib.hid (if_neg HAa.out).symm)).mono ?_; rintro e w3 ⟨rfl, hb3⟩
      clear hbE
      obtain ⟨z0, z1, z2, z3, z4, z5⟩ := cells6 (RXb.out _ hb3)
      go_wp2_with fail
      clear z0 z1 z2 z3 z4 z5
      have hbE := hb3
      refine (Encode_val (Ck.mk gb' epb' lb' vb' odb' lnb') uob ulb _ KCb.out (SOb.out.below hbE (Nat.le_refl _)) (SNb.out.below hbE (Nat.le_refl _)) zb 0 Hzb (Lib.hid (if_pos HAb.out).symm)).mono ?_; rintro e w4 ⟨rfl, hb⟩
      have hb4 := below_step hb3 hb
      clear hb hb3 hbE
      have TT := Lib.hid (below_step PB.out hb4)
      clear hb4
      go_wp2_with fail
      refine (fixed_val _).mono ?_; rintro e w5 ⟨rfl, hb5⟩
      go_wp2_with fail
      go_ret
      exact ⟨rfl, below_step TT.out hb5⟩
    · have HAa := Lib.hid hAa
      clear hAa
      have HAb := Lib.hid hAb
      clear hAb
      have hbE := Below.refl W.heap.size W
      refine (Encode_val (Ck.mk ga' epa' la' va' oda' lna') uoa ula W KCa.out (SOa.out.below hbE (Nat.le_refl _)) (SNa.out.below hbE (Nat.le_refl _)) ⟨#[]⟩ 5 (Lib.hid (if_neg HAa.out).symm) (Lib.hid (if_neg HAa.out).symm)).mono ?_; rintro e w3 ⟨rfl, hb3⟩
      clear hbE
      obtain ⟨z0, z1, z2, z3, z4, z5⟩ := cells6 (RXb.out _ hb3)
      go_wp2_with fail
      clear z0 z1 z2 z3 z4 z5
      have hbE := hb3
      refine (Encode_val (Ck.mk gb' epb' lb' vb' odb' lnb') uob ulb _ KCb.out (SOb.out.below hbE (Nat.le_refl _)) (SNb.out.below hbE (Nat.le_refl _)) ⟨#[]⟩ 5 (Lib.hid (if_neg HAb.out).symm) (Lib.hid (if_neg HAb.out).symm)).mono ?_; rintro e w4 ⟨rfl, hb⟩
      have hb4 := below_step hb3 hb
      clear hb hb3 hbE
      have TT := Lib.hid (below_step PB.out hb4)
      clear hb4
      go_wp2_with fail
      refine (fixed_val _).mono ?_; rintro e w5 ⟨rfl, hb5⟩
      go_wp2_with fail
      go_ret
      exact ⟨rfl, below_step TT.out hb5⟩

theorem CkptBest_walk (v0 v1 : Value) (w : World) (o0 : Row.Opn Try.prog w 26 v0) (o1 : Row.Opn Try.prog w 26 v1) :
    Calls Try.prog 6 #[v0, v1] w fun e w' => e = .returned (.bool true) ∧ Below w.heap.size w w' := by
  obtain ⟨ca, voa, vla, rfl, hka, hoa, hla⟩ := open_check o0
  obtain ⟨cb, vob, vlb, rfl, hkb, hob, hlb⟩ := open_check o1
  exact best_main ca voa vla cb vob vlb w hka hoa hla hkb hob hlb
end Go.Proofs.Ytieijelbflkpeaa.L
