/- CkptSides: whatever the checkpoints, the law answers true. No condition. -/
import Derived.Test.YtieijelbflkpeaaGCkY
import Derived.Test.YtieijelbflkpeaaGFast
namespace Go.Proofs.Ytieijelbflkpeaa.L
open Go.RowKit Go.Proofs.Ytieijelbflkpeaa.G Go.Proofs.Ytieijelbflkpeaa.Loose Go.Proofs.Ytieijelbflkpeaa.CrcPlain Go.Proofs.Ytieijelbflkpeaa.WordPlain
set_option linter.unusedVariables false
set_option linter.unusedSimpArgs false

set_option maxRecDepth 100000 in
set_option maxHeartbeats 8000000 in
theorem sides_main (ca : Ck) (voa vla : Value) (cb : Ck) (vob vlb : Value) (w : World) (hka : ca.Kind) (hoa : Sl w voa ca.order) (hla : Sl w vla ca.lens) (hkb : cb.Kind) (hob : Sl w vob cb.order) (hlb : Sl w vlb cb.lens) :
    Calls Try.prog 8 #[ca.val voa vla, cb.val vob vlb] w fun e w' => e = .returned (.bool true) ∧ Below w.heap.size w w' := by
  obtain ⟨uoa, ula, sua, sla, cuta⟩ := Cut_val ca voa vla w hoa hla
  have kca := hka.cut
  obtain ⟨da, hd⟩ : ∃ c, c = ca.cut := ⟨_, rfl⟩
  rw [← hd] at sua sla cuta kca
  clear hd
  obtain ⟨oaa, capa, rfl⟩ := hoa.form
  obtain ⟨oba, cbpa, rfl⟩ := hla.form
  obtain ⟨paa, dapa, rfl⟩ := sua.form
  obtain ⟨pba, dbpa, rfl⟩ := sla.form
  clear hoa hla hka
  obtain ⟨ga, epa, la, va, oda, lna⟩ := ca
  obtain ⟨ga', epa', la', va', oda', lna'⟩ := da
  simp only [Ck.val] at cuta sua sla ⊢
  obtain ⟨ma, hm⟩ : ∃ m, m = oda.length := ⟨_, rfl⟩
  simp only [← hm] at cuta ⊢
  clear hm
  obtain ⟨na, hm⟩ : ∃ m, m = lna.length := ⟨_, rfl⟩
  simp only [← hm] at cuta ⊢
  clear hm
  obtain ⟨ra, hra⟩ : ∃ m, m = oda'.length := ⟨_, rfl⟩
  simp only [← hra] at cuta sua ⊢
  obtain ⟨sa, hsa⟩ : ∃ m, m = lna'.length := ⟨_, rfl⟩
  simp only [← hsa] at cuta sla ⊢
  have HRa := Lib.hid hra
  have HSa := Lib.hid hsa
  have SUa := Lib.hid sua
  have SLa := Lib.hid sla
  have CUTa := Lib.hid cuta
  have KCa := Lib.hid kca
  clear hra hsa sua sla cuta kca
  obtain ⟨uob, ulb, sub, slb, cutb⟩ := Cut_val cb vob vlb w hob hlb
  have kcb := hkb.cut
  obtain ⟨db, hd⟩ : ∃ c, c = cb.cut := ⟨_, rfl⟩
  rw [← hd] at sub slb cutb kcb
  clear hd
  obtain ⟨oab, capb, rfl⟩ := hob.form
  obtain ⟨obb, cbpb, rfl⟩ := hlb.form
  obtain ⟨pab, dapb, rfl⟩ := sub.form
  obtain ⟨pbb, dbpb, rfl⟩ := slb.form
  clear hob hlb hkb
  obtain ⟨gb, epb, lb, vb, odb, lnb⟩ := cb
  obtain ⟨gb', epb', lb', vb', odb', lnb'⟩ := db
  simp only [Ck.val] at cutb sub slb ⊢
  obtain ⟨mb, hm⟩ : ∃ m, m = odb.length := ⟨_, rfl⟩
  simp only [← hm] at cutb ⊢
  clear hm
  obtain ⟨nb, hm⟩ : ∃ m, m = lnb.length := ⟨_, rfl⟩
  simp only [← hm] at cutb ⊢
  clear hm
  obtain ⟨rb, hrb⟩ : ∃ m, m = odb'.length := ⟨_, rfl⟩
  simp only [← hrb] at cutb sub ⊢
  obtain ⟨sb, hsb⟩ : ∃ m, m = lnb'.length := ⟨_, rfl⟩
  simp only [← hsb] at cutb slb ⊢
  have HRb := Lib.hid hrb
  have HSb := Lib.hid hsb
  have SUb := Lib.hid sub
  have SLb := Lib.hid slb
  have CUTb := Lib.hid cutb
  have KCb := Lib.hid kcb
  clear hrb hsb sub slb cutb kcb
  go_enter Try.func8, Try.ntmps8
  obtain ⟨W0, hW0⟩ : ∃ x, x = ((w.alloc (.cells #[.int .u64 ga, .int .u32 epa, .int .u64 la, .int .u64 va, .slice oaa ma capa, .slice oba na cbpa] 26)).alloc (.cells #[.int .u64 gb, .int .u32 epb, .int .u64 lb, .int .u64 vb, .slice oab mb capb, .slice obb nb cbpb] 26)) := ⟨_, rfl⟩
  obtain ⟨xa0, xb0, pb0, _⟩ := two_new w (.cells #[.int .u64 ga, .int .u32 epa, .int .u64 la, .int .u64 va, .slice oaa ma capa, .slice oba na cbpa] 26) (.cells #[.int .u64 gb, .int .u32 epb, .int .u64 lb, .int .u64 vb, .slice oab mb capb, .slice obb nb cbpb] 26)
  rw [← hW0] at xa0 xb0 pb0
  have Xa0 := Lib.hid xa0
  have Xb0 := Lib.hid xb0
  have PB0 := Lib.hid pb0
  have HW0 := Lib.hid hW0
  clear pb0 hW0 xa0 xb0
  go_wp2_with fail
  rw [← HW0.out]
  refine (CUTa.out _).mono ?_; rintro e w1 ⟨rfl, hb⟩
  have ya := (hb.block _ (lt_of_row Xa0.out)).trans Xa0.out
  have yb := (hb.block _ (lt_of_row Xb0.out)).trans Xb0.out
  have pb := below_step PB0.out hb
  clear hb
  have OLD := Lib.hid ya
  have ONE : Hid ((#[.int .u64 ga', .int .u32 epa', .int .u64 la', .int .u64 va', .slice paa ra dapa, .slice pba sa dbpa] : Array Value).all (·.oneCell') = true) := Lib.hid (by simp [Value.oneCell'])
  obtain ⟨W1, hW⟩ : ∃ z, z = w1.setRow w.heap.size #[.int .u64 ga', .int .u32 epa', .int .u64 la', .int .u64 va', .slice paa ra dapa, .slice pba sa dbpa] := ⟨_, rfl⟩
  have pb' := pb.setRow (show w.heap.size ≤ w.heap.size by omega) #[.int .u64 ga', .int .u32 epa', .int .u64 la', .int .u64 va', .slice paa ra dapa, .slice pba sa dbpa]
  rw [← hW] at pb'
  have Xa1 := Lib.hid (setRow_heap w1 w.heap.size _ #[.int .u64 ga', .int .u32 epa', .int .u64 la', .int .u64 va', .slice paa ra dapa, .slice pba sa dbpa] _ _ ya)
  have Xb1 := Lib.hid ((setRow_other w1 w.heap.size (w.heap.size + 1) #[.int .u64 ga', .int .u32 epa', .int .u64 la', .int .u64 va', .slice paa ra dapa, .slice pba sa dbpa] (by omega)).trans yb)
  simp only [← hW] at Xa1 Xb1
  have PB1 := Lib.hid pb'
  have HW := Lib.hid hW
  clear pb pb' hW ya yb
  obtain ⟨z0, z1, z2, z3, z4, z5⟩ := cells6 Xb1.out
  rw [HW.out] at z0 z1 z2 z3 z4 z5
  go_wp2_with (refine wpList_store_row rfl 26 _ _ rfl w.heap.size #[.int .u64 ga', .int .u32 epa', .int .u64 la', .int .u64 va', .slice paa ra dapa, .slice pba sa dbpa] rfl rfl _ _ OLD.out (by kernel_rfl) rfl ONE.out ?_)
  rw [← HW.out]
  clear z0 z1 z2 z3 z4 z5 OLD ONE HW
  refine (CUTb.out _).mono ?_; rintro e w2 ⟨rfl, hb⟩
  have ya := (hb.block _ (lt_of_row Xa1.out)).trans Xa1.out
  have yb := (hb.block _ (lt_of_row Xb1.out)).trans Xb1.out
  have pb := below_step PB1.out hb
  clear hb
  have OLD := Lib.hid yb
  have ONE : Hid ((#[.int .u64 gb', .int .u32 epb', .int .u64 lb', .int .u64 vb', .slice pab rb dapb, .slice pbb sb dbpb] : Array Value).all (·.oneCell') = true) := Lib.hid (by simp [Value.oneCell'])
  obtain ⟨W2, hW⟩ : ∃ z, z = w2.setRow (w.heap.size + 1) #[.int .u64 gb', .int .u32 epb', .int .u64 lb', .int .u64 vb', .slice pab rb dapb, .slice pbb sb dbpb] := ⟨_, rfl⟩
  have pb' := pb.setRow (show w.heap.size ≤ (w.heap.size + 1) by omega) #[.int .u64 gb', .int .u32 epb', .int .u64 lb', .int .u64 vb', .slice pab rb dapb, .slice pbb sb dbpb]
  rw [← hW] at pb'
  have Xa2 := Lib.hid ((setRow_other w2 (w.heap.size + 1) w.heap.size #[.int .u64 gb', .int .u32 epb', .int .u64 lb', .int .u64 vb', .slice pab rb dapb, .slice pbb sb dbpb] (by omega)).trans ya)
  have Xb2 := Lib.hid (setRow_heap w2 (w.heap.size + 1) _ #[.int .u64 gb', .int .u32 epb', .int .u64 lb', .int .u64 vb', .slice pab rb dapb, .slice pbb sb dbpb] _ _ yb)
  simp only [← hW] at Xa2 Xb2
  have PB2 := Lib.hid pb'
  have HW := Lib.hid hW
  clear pb pb' hW ya yb
  obtain ⟨z0, z1, z2, z3, z4, z5⟩ := cells6 Xa2.out
  rw [HW.out] at z0 z1 z2 z3 z4 z5
  go_wp2_with (refine wpList_store_row rfl 26 _ _ rfl (w.heap.size + 1) #[.int .u64 gb', .int .u32 epb', .int .u64 lb', .int .u64 vb', .slice pab rb dapb, .slice pbb sb dbpb] rfl rfl _ _ OLD.out (by kernel_rfl) rfl ONE.out ?_)
  rw [← HW.out]
  clear z0 z1 z2 z3 z4 z5 OLD ONE HW
  obtain ⟨W, hW⟩ : ∃ z, z = W2 := ⟨_, rfl⟩
  rw [← hW] at PB2 Xa2 Xb2 ⊢
  clear hW
  have PB := PB2
  obtain ⟨Ab, hAb⟩ : ∃ z, z = (w.heap.size + 1) := ⟨_, rfl⟩
  simp only [← hAb] at Xb2 ⊢
  obtain ⟨Aa, hAa⟩ : ∃ z, z = w.heap.size := ⟨_, rfl⟩
  simp only [← hAa] at Xa2 ⊢
  clear hAa hAb
  have su := SUa.out.below PB.out (Nat.le_refl _)
  have sl := SLa.out.below PB.out (Nat.le_refl _)
  obtain ⟨uoa, ho⟩ : ∃ z, z = Value.slice paa ra dapa := ⟨_, rfl⟩
  obtain ⟨ula, hl⟩ : ∃ z, z = Value.slice pba sa dbpa := ⟨_, rfl⟩
  have xr := Xa2.out
  simp only [← ho, ← hl] at su sl xr ⊢
  clear ho hl
  have SOa := Lib.hid su
  have SNa := Lib.hid sl
  have RXa : Hid (∀ V, Below W.heap.size W V → V.heap[Aa]? = some (.cells #[.int .u64 ga', .int .u32 epa', .int .u64 la', .int .u64 va', uoa, ula] 26 (0, 0))) := Lib.hid (fun V h => (h.block _ (lt_of_row xr)).trans xr)
  clear su sl xr
  have su := SUb.out.below PB.out (Nat.le_refl _)
  have sl := SLb.out.below PB.out (Nat.le_refl _)
  obtain ⟨uob, ho⟩ : ∃ z, z = Value.slice pab rb dapb := ⟨_, rfl⟩
  obtain ⟨ulb, hl⟩ : ∃ z, z = Value.slice pbb sb dbpb := ⟨_, rfl⟩
  have xr := Xb2.out
  simp only [← ho, ← hl] at su sl xr ⊢
  clear ho hl
  have SOb := Lib.hid su
  have SNb := Lib.hid sl
  have RXb : Hid (∀ V, Below W.heap.size W V → V.heap[Ab]? = some (.cells #[.int .u64 gb', .int .u32 epb', .int .u64 lb', .int .u64 vb', uob, ulb] 26 (0, 0))) := Lib.hid (fun V h => (h.block _ (lt_of_row xr)).trans xr)
  clear su sl xr
  clear SUa SLa CUTa SUb SLb CUTb Xa0 Xa1 Xa2 Xb0 Xb1 Xb2 PB0 PB1 PB2 HW0
  by_cases hAa : (Ck.mk ga' epa' la' va' oda' lna').Right
  · by_cases hAb : (Ck.mk gb' epb' lb' vb' odb' lnb').Right
    · have HAa := Lib.hid hAa
      clear hAa
      obtain ⟨za, hz⟩ : ∃ z, z = (Ck.mk ga' epa' la' va' oda' lna').out := ⟨_, rfl⟩
      have Hza := Lib.hid hz
      clear hz
      have HAb := Lib.hid hAb
      clear hAb
      obtain ⟨zb, hz⟩ : ∃ z, z = (Ck.mk gb' epb' lb' vb' odb' lnb').out := ⟨_, rfl⟩
      have Hzb := Lib.hid hz
      clear hz
      have hbE := Below.refl W.heap.size W
      refine (Encode_val (Ck.mk ga' epa' la' va' oda' lna') uoa ula W KCa.out (SOa.out.below hbE (Nat.le_refl _)) (SNa.out.below hbE (Nat.le_refl _)) za 0 Hza (Lib.hid (if_pos HAa.out).symm)).mono ?_; rintro e w3 ⟨rfl, hb3⟩
      clear hbE
      obtain ⟨z0, z1, z2, z3, z4, z5⟩ := cells6 (RXb.out _ hb3)
      go_wp2_with fail
      clear z0 z1 z2 z3 z4 z5
      have hbE := hb3
      refine (Encode_val (Ck.mk gb' epb' lb' vb' odb' lnb') uob ulb _ KCb.out (SOb.out.below hbE (Nat.le_refl _)) (SNb.out.below hbE (Nat.le_refl _)) zb 0 Hzb (Lib.hid (if_pos HAb.out).symm)).mono ?_; rintro e w4 ⟨rfl, hb⟩
      have hb4 := below_step hb3 hb
      clear hb hb3 hbE
      obtain ⟨Z, hZ⟩ : ∃ z, z = sameB (Ck.mk ga' epa' la' va' oda' lna') (Ck.mk gb' epb' lb' vb' odb' lnb') := ⟨_, rfl⟩
      have q := same_out (Ck.mk ga' epa' la' va' oda' lna') (Ck.mk gb' epb' lb' vb' odb' lnb') KCa.out KCb.out HAa.out HAb.out za zb Hza.out Hzb.out Z hZ
      have HZ := Lib.hid hZ
      clear hZ
      obtain ⟨c0, c1, c2, c3, c4, c5⟩ := cells6 (RXa.out _ hb4)
      obtain ⟨d0, d1, d2, d3, d4, d5⟩ := cells6 (RXb.out _ hb4)
      have C0r := cell_regrown c0
      have C1r := cell_regrown c1
      have C2r := cell_regrown c2
      have C3r := cell_regrown c3
      have C4r := cell_regrown c4
      have C5r := cell_regrown c5
      have D0r := cell_regrown d0
      have D1r := cell_regrown d1
      have D2r := cell_regrown d2
      have D3r := cell_regrown d3
      have D4r := cell_regrown d4
      have D5r := cell_regrown d5
      have s1 := Lib.hid (SOa.out.below hb4 (Nat.le_refl _)).regrown
      have s2 := Lib.hid (SNa.out.below hb4 (Nat.le_refl _)).regrown
      have s3 := Lib.hid (SOb.out.below hb4 (Nat.le_refl _)).regrown
      have s4 := Lib.hid (SNb.out.below hb4 (Nat.le_refl _)).regrown
      have TT := Lib.hid (below_step PB.out hb4)
      clear hb4 c0 c1 c2 c3 c4 c5 d0 d1 d2 d3 d4 d5 RXa RXb SOa SNa SOb SNb
      go_wp2_with fail
      refine Loose.wp_region_quiet_fast (by kernel_rfl) (by kernel_rfl) ?_
      (try simp only [List.append_eq, List.cons_append, List.nil_append])
      repeat (go_big_quiet_step (fail))
      go_big_quiet_step ((go_at_call 12; exact Calls.regrown_of (Ref_val (Ck.mk ga' epa' la' va' oda' lna') uoa ula _ (s1.out _ _) (s2.out _ _))))
      repeat (go_big_quiet_step (fail))
      go_big_quiet_step ((go_at_call 12; exact Calls.regrown_of (Ref_val (Ck.mk gb' epb' lb' vb' odb' lnb') uob ulb _ (s3.out _ _) (s4.out _ _))))
      repeat (go_big_quiet_step (fail))
      go_big_quiet_step ((go_at_call 19; exact Calls.regrown_of (Same_any (Ck.mk ga' epa' la' va' oda' lna') (Ck.mk gb' epb' lb' vb' odb' lnb') uoa ula uob ulb _ KCa.out (s1.out _ _) (s2.out _ _) (s3.out _ _) (s4.out _ _) Z HZ)))
      repeat (go_big_quiet_step (fail))
      go_big_quiet_step ((go_at_call 20; exact Calls.regrown_of (fixed_val _)))
      repeat (go_big_quiet_step (fail))
      refine wpQuiet_nil ?_
      intro _ hw'
      obtain ⟨⟨dq, osq⟩, hw''⟩ := hw'
      subst hw''
      go_wp2_with fail
      go_ret
      exact ⟨rfl, below_step TT.out (below_regrown _ dq osq)⟩
    · have HAa := Lib.hid hAa
      clear hAa
      obtain ⟨za, hz⟩ : ∃ z, z = (Ck.mk ga' epa' la' va' oda' lna').out := ⟨_, rfl⟩
      have Hza := Lib.hid hz
      clear hz
      have HAb := Lib.hid hAb
      clear hAb
      have hbE := Below.refl W.heap.size W
      refine (Encode_val (Ck.mk ga' epa' la' va' oda' lna') uoa ula W KCa.out (SOa.out.below hbE (Nat.le_refl _)) (SNa.out.below hbE (Nat.le_refl _)) za 0 Hza (Lib.hid (if_pos HAa.out).symm)).mono ?_; rintro e w3 ⟨rfl, hb3⟩
      clear hbE
      obtain ⟨z0, z1, z2, z3, z4, z5⟩ := cells6 (RXb.out _ hb3)
      go_wp2_with fail
      clear z0 z1 z2 z3 z4 z5
      have hbE := hb3
      refine (Encode_val (Ck.mk gb' epb' lb' vb' odb' lnb') uob ulb _ KCb.out (SOb.out.below hbE (Nat.le_refl _)) (SNb.out.below hbE (Nat.le_refl _)) ⟨#[]⟩ 5 (Lib.hid (if_neg HAb.out).symm) (Lib.hid (if_neg HAb.out).symm)).mono ?_; rintro e w4 ⟨rfl, hb⟩
      have hb4 := below_step hb3 hb
      clear hb hb3 hbE
      have TT := Lib.hid (below_step PB.out hb4)
      clear hb4
      go_wp2_with fail
      refine Loose.wp_region_quiet_fast (by kernel_rfl) (by kernel_rfl) ?_
      (try simp only [List.append_eq, List.cons_append, List.nil_append])
      repeat (go_big_quiet_step (fail))
      go_big_quiet_step ((go_at_call 20; exact Calls.regrown_of (fixed_val _)))
      repeat (go_big_quiet_step (fail))
      refine wpQuiet_nil ?_
      intro _ hw'
      obtain ⟨⟨dq, osq⟩, hw''⟩ := hw'
      subst hw''
      go_wp2_with fail
      go_ret
      exact ⟨rfl, below_step TT.out (below_regrown _ dq osq)⟩
  · by_cases hAb : (Ck.mk gb' epb' lb' vb' odb' lnb').Right
    · have HAa := Lib.hid hAa
      clear hAa
      have HAb := Lib.hid hAb
      clear hAb
      obtain ⟨zb, hz⟩ : ∃ z, z = (Ck.mk gb' epb' lb' vb' odb' lnb').out := ⟨_, rfl⟩
      have Hzb := Lib.hid hz
      clear hz
      have hbE := Below.refl W.heap.size W
      refine (Encode_val (Ck.mk ga' epa' la' va' oda' lna') uoa ula W KCa.out (SOa.out.below hbE (Nat.le_refl _)) (SNa.out.below hbE (Nat.le_refl _)) ⟨#[]⟩ 5 (Lib.hid (if_neg HAa.out).symm) (Lib.hid (if_neg HAa.out).symm)).mono ?_; rintro e w3 ⟨rfl, hb3⟩
      clear hbE
      obtain ⟨z0, z1, z2, z3, z4, z5⟩ := cells6 (RXb.out _ hb3)
      go_wp2_with fail
      clear z0 z1 z2 z3 z4 z5
      have hbE := hb3
      refine (Encode_val (Ck.mk gb' epb' lb' vb' odb' lnb') uob ulb _ KCb.out (SOb.out.below hbE (Nat.le_refl _)) (SNb.out.below hbE (Nat.le_refl _)) zb 0 Hzb (Lib.hid (if_pos HAb.out).symm)).mono ?_; rintro e w4 ⟨rfl, hb⟩
      have hb4 := below_step hb3 hb
      clear hb hb3 hbE
      have TT := Lib.hid (below_step PB.out hb4)
      clear hb4
      go_wp2_with fail
      refine Loose.wp_region_quiet_fast (by kernel_rfl) (by kernel_rfl) ?_
      (try simp only [List.append_eq, List.cons_append, List.nil_append])
      repeat (go_big_quiet_step (fail))
      go_big_quiet_step ((go_at_call 20; exact Calls.regrown_of (fixed_val _)))
      repeat (go_big_quiet_step (fail))
      refine wpQuiet_nil ?_
      intro _ hw'
      obtain ⟨⟨dq, osq⟩, hw''⟩ := hw'
      subst hw''
      go_wp2_with fail
      go_ret
      exact ⟨rfl, below_step TT.out (below_regrown _ dq osq)⟩
    · have HAa := Lib.hid hAa
      clear hAa
      have HAb := Lib.hid hAb
      clear hAb
      have hbE := Below.refl W.heap.size W
      refine (Encode_val (Ck.mk ga' epa' la' va' oda' lna') uoa ula W KCa.out (SOa.out.below hbE (Nat.le_refl _)) (SNa.out.below hbE (Nat.le_refl _)) ⟨#[]⟩ 5 (Lib.hid (if_neg HAa.out).symm) (Lib.hid (if_neg HAa.out).symm)).mono ?_; rintro e w3 ⟨rfl, hb3⟩
      clear hbE
      obtain ⟨z0, z1, z2, z3, z4, z5⟩ := cells6 (RXb.out _ hb3)
      go_wp2_with fail
      clear z0 z1 z2 z3 z4 z5
      have hbE := hb3
      refine (Encode_val (Ck.mk gb' epb' lb' vb' odb' lnb') uob ulb _ KCb.out (SOb.out.below hbE (Nat.le_refl _)) (SNb.out.below hbE (Nat.le_refl _)) ⟨#[]⟩ 5 (Lib.hid (if_neg HAb.out).symm) (Lib.hid (if_neg HAb.out).symm)).mono ?_; rintro e w4 ⟨rfl, hb⟩
      have hb4 := below_step hb3 hb
      clear hb hb3 hbE
      have TT := Lib.hid (below_step PB.out hb4)
      clear hb4
      go_wp2_with fail
      refine Loose.wp_region_quiet_fast (by kernel_rfl) (by kernel_rfl) ?_
      (try simp only [List.append_eq, List.cons_append, List.nil_append])
      repeat (go_big_quiet_step (fail))
      go_big_quiet_step ((go_at_call 20; exact Calls.regrown_of (fixed_val _)))
      repeat (go_big_quiet_step (fail))
      refine wpQuiet_nil ?_
      intro _ hw'
      obtain ⟨⟨dq, osq⟩, hw''⟩ := hw'
      subst hw''
      go_wp2_with fail
      go_ret
      exact ⟨rfl, below_step TT.out (below_regrown _ dq osq)⟩

theorem CkptSides_walk (v0 v1 : Value) (w : World) (o0 : Row.Opn Try.prog w 26 v0) (o1 : Row.Opn Try.prog w 26 v1) :
    Calls Try.prog 8 #[v0, v1] w fun e w' => e = .returned (.bool true) ∧ Below w.heap.size w w' := by
  obtain ⟨ca, voa, vla, rfl, hka, hoa, hla⟩ := open_check o0
  obtain ⟨cb, vob, vlb, rfl, hkb, hob, hlb⟩ := open_check o1
  exact sides_main ca voa vla cb vob vlb w hka hoa hla hkb hob hlb
end Go.Proofs.Ytieijelbflkpeaa.L
