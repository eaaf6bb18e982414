/- CkptBack: whatever the checkpoint and the bytes, the law answers true. No condition. -/
import Derived.Test.YtieijelbflkpeaaGCkY
import Derived.Test.YtieijelbflkpeaaGFast
namespace Go.Proofs.Ytieijelbflkpeaa.L
open Go.RowKit Go.Proofs.Ytieijelbflkpeaa.G Go.Proofs.Ytieijelbflkpeaa.Loose Go.Proofs.Ytieijelbflkpeaa.CrcPlain Go.Proofs.Ytieijelbflkpeaa.WordPlain
set_option linter.unusedVariables false
set_option linter.unusedSimpArgs false

set_option maxRecDepth 100000 in
set_option maxHeartbeats 4000000 in
theorem back_main (ca : Ck) (voa vla : Value) (s : ByteArray) (w : World) (hka : ca.Kind) (hoa : Sl w voa ca.order) (hla : Sl w vla ca.lens) (hsz : s.size ≤ 140737488351232) :
    Calls Try.prog 4 #[ca.val voa vla, .string s] w fun e w' => e = .returned (.bool true) ∧ Below w.heap.size w w' := by
  obtain ⟨k, hkk⟩ : ∃ k, k = min s.size 130 := ⟨_, rfl⟩
  have hmin : ∀ W, (Builtin.min_ #[3, 3] 3 #[.int .i64 (s.size : Int), .int .i64 130]).run Try.prog W = .ok (.int .i64 (k : Int)) W := by
    intro W
    rw [run_min2, show min (s.size : Int) 130 = (k : Int) from by omega]
  have hks : ¬ (s.size : Int) < (k : Int) := by omega
  have hzr := zero_rcheck
  clear hkk hsz
  obtain ⟨uoa, ula, sua, sla, cuta⟩ := Cut_val ca voa vla w hoa hla
  have kca := hka.cut
  obtain ⟨da, hd⟩ : ∃ c, c = ca.cut := ⟨_, rfl⟩
  rw [← hd] at sua sla cuta kca
  clear hd
  obtain ⟨oaa, capa, rfl⟩ := hoa.form
  obtain ⟨oba, cbpa, rfl⟩ := hla.form
  obtain ⟨paa, dapa, rfl⟩ := sua.form
  obtain ⟨pba, dbpa, rfl⟩ := sla.form
  clear hoa hla hka
  obtain ⟨ga, epa, la, va, oda, lna⟩ := ca
  obtain ⟨ga', epa', la', va', oda', lna'⟩ := da
  simp only [Ck.val] at cuta sua sla ⊢
  obtain ⟨ma, hm⟩ : ∃ m, m = oda.length := ⟨_, rfl⟩
  simp only [← hm] at cuta ⊢
  clear hm
  obtain ⟨na, hm⟩ : ∃ m, m = lna.length := ⟨_, rfl⟩
  simp only [← hm] at cuta ⊢
  clear hm
  obtain ⟨ra, hra⟩ : ∃ m, m = oda'.length := ⟨_, rfl⟩
  simp only [← hra] at cuta sua ⊢
  obtain ⟨sa, hsa⟩ : ∃ m, m = lna'.length := ⟨_, rfl⟩
  simp only [← hsa] at cuta sla ⊢
  have HRa := Lib.hid hra
  have HSa := Lib.hid hsa
  have SUa := Lib.hid sua
  have SLa := Lib.hid sla
  have CUTa := Lib.hid cuta
  have KCa := Lib.hid kca
  clear hra hsa sua sla cuta kca
  go_enter Try.func4, Try.ntmps4
  obtain ⟨W0, hW0⟩ : ∃ x, x = (w.alloc (.cells #[.int .u64 ga, .int .u32 epa, .int .u64 la, .int .u64 va, .slice oaa ma capa, .slice oba na cbpa] 26)) := ⟨_, rfl⟩
  have xa0 := heap_alloc_new w (.cells #[.int .u64 ga, .int .u32 epa, .int .u64 la, .int .u64 va, .slice oaa ma capa, .slice oba na cbpa] 26)
  have pb0 := (Below.refl w.heap.size w).alloc (Nat.le_refl _) (.cells #[.int .u64 ga, .int .u32 epa, .int .u64 la, .int .u64 va, .slice oaa ma capa, .slice oba na cbpa] 26)
  rw [← hW0] at xa0 pb0
  have Xa0 := Lib.hid xa0
  have PB0 := Lib.hid pb0
  have HW0 := Lib.hid hW0
  clear pb0 hW0 xa0
  go_wp2_with fail
  rw [← HW0.out]
  refine (CUTa.out _).mono ?_; rintro e w1 ⟨rfl, hb⟩
  have ya := (hb.block _ (lt_of_row Xa0.out)).trans Xa0.out
  have pb := below_step PB0.out hb
  clear hb
  have OLD := Lib.hid ya
  have ONE : Hid ((#[.int .u64 ga', .int .u32 epa', .int .u64 la', .int .u64 va', .slice paa ra dapa, .slice pba sa dbpa] : Array Value).all (·.oneCell') = true) := Lib.hid (by simp [Value.oneCell'])
  obtain ⟨W1, hW⟩ : ∃ z, z = w1.setRow w.heap.size #[.int .u64 ga', .int .u32 epa', .int .u64 la', .int .u64 va', .slice paa ra dapa, .slice pba sa dbpa] := ⟨_, rfl⟩
  have pb' := pb.setRow (show w.heap.size ≤ w.heap.size by omega) #[.int .u64 ga', .int .u32 epa', .int .u64 la', .int .u64 va', .slice paa ra dapa, .slice pba sa dbpa]
  rw [← hW] at pb'
  have Xa1 := Lib.hid (setRow_heap w1 w.heap.size _ #[.int .u64 ga', .int .u32 epa', .int .u64 la', .int .u64 va', .slice paa ra dapa, .slice pba sa dbpa] _ _ ya)
  simp only [← hW] at Xa1
  have PB1 := Lib.hid pb'
  have HW := Lib.hid hW
  clear pb pb' hW ya
  obtain ⟨z0, z1, z2, z3, z4, z5⟩ := cells6 Xa1.out
  rw [HW.out] at z0 z1 z2 z3 z4 z5
  go_wp2_with (refine wpList_store_row rfl 26 _ _ rfl w.heap.size #[.int .u64 ga', .int .u32 epa', .int .u64 la', .int .u64 va', .slice paa ra dapa, .slice pba sa dbpa] rfl rfl _ _ OLD.out (by kernel_rfl) rfl ONE.out ?_)
  rw [← HW.out]
  clear z0 z1 z2 z3 z4 z5 OLD ONE HW
  obtain ⟨W, hW⟩ : ∃ z, z = W1 := ⟨_, rfl⟩
  rw [← hW] at PB1 Xa1 ⊢
  clear hW
  have PB := PB1
  obtain ⟨Aa, hAa⟩ : ∃ z, z = w.heap.size := ⟨_, rfl⟩
  simp only [← hAa] at Xa1 ⊢
  clear hAa
  have su := SUa.out.below PB.out (Nat.le_refl _)
  have sl := SLa.out.below PB.out (Nat.le_refl _)
  obtain ⟨uoa, ho⟩ : ∃ z, z = Value.slice paa ra dapa := ⟨_, rfl⟩
  obtain ⟨ula, hl⟩ : ∃ z, z = Value.slice pba sa dbpa := ⟨_, rfl⟩
  have xr := Xa1.out
  simp only [← ho, ← hl] at su sl xr ⊢
  clear ho hl
  have SOa := Lib.hid su
  have SNa := Lib.hid sl
  have RXa : Hid (∀ V, Below W.heap.size W V → V.heap[Aa]? = some (.cells #[.int .u64 ga', .int .u32 epa', .int .u64 la', .int .u64 va', uoa, ula] 26 (0, 0))) := Lib.hid (fun V h => (h.block _ (lt_of_row xr)).trans xr)
  clear su sl xr
  clear SUa SLa CUTa Xa0 Xa1 PB0 PB1 HW0
  by_cases hAa : (Ck.mk ga' epa' la' va' oda' lna').Right
  · have HAa := Lib.hid hAa
    clear hAa
    obtain ⟨za, hz⟩ : ∃ z, z = (Ck.mk ga' epa' la' va' oda' lna').out := ⟨_, rfl⟩
    have Hza := Lib.hid hz
    have d1 := fun V => Decode_val za V
    obtain ⟨q1, q2⟩ := dec_out (Ck.mk ga' epa' la' va' oda' lna') KCa.out HAa.out
    rw [← hz] at q1 q2
    have q3 : decE za = 0 := if_pos q1
    rw [q2, q3] at d1
    simp only [Ck.val] at d1
    have D1 := Lib.hid d1
    clear d1 q1 q2 q3 hz
    have hbE := Below.refl W.heap.size W
    refine (Encode_val (Ck.mk ga' epa' la' va' oda' lna') uoa ula W KCa.out (SOa.out.below hbE (Nat.le_refl _)) (SNa.out.below hbE (Nat.le_refl _)) za 0 Hza (Lib.hid (if_pos HAa.out).symm)).mono ?_; rintro e w3 ⟨rfl, hb3⟩
    clear hbE
    obtain ⟨z0, z1, z2, z3, z4, z5⟩ := cells6 (RXa.out _ hb3)
    go_wp2_with fail
    clear z0 z1 z2 z3 z4 z5
    refine (Right_val (Ck.mk ga' epa' la' va' oda' lna') uoa ula _ KCa.out (SOa.out.below hb3 (Nat.le_refl _)) (SNa.out.below hb3 (Nat.le_refl _)) true (Lib.hid (decide_eq_true HAa.out).symm)).mono ?_; rintro e w4 ⟨rfl, hb⟩
    have hb4 := below_step hb3 hb
    clear hb hb3
    go_wp2_with fail
    refine (D1.out _).mono ?_; rintro e w7 ⟨⟨xo7, xl7, rfl, ho, hl⟩, hb⟩
    obtain ⟨qa, qp, rfl⟩ := ho.form
    obtain ⟨qb, qq, rfl⟩ := hl.form
    obtain ⟨na, hna⟩ : ∃ m, m = (oda' : List Int).length := ⟨_, rfl⟩
    obtain ⟨nb, hnb⟩ : ∃ m, m = (lna' : List Int).length := ⟨_, rfl⟩
    replace ho : Sl w7 (.slice qa na qp) oda' := by rw [hna]; exact ho
    replace hl : Sl w7 (.slice qb nb qq) lna' := by rw [hnb]; exact hl
    have hbb := below_step hb4 hb
    clear hb
    have HO := Lib.hid ho
    have HL := Lib.hid hl
    clear ho hl
    simp only [← hna, ← hnb]
    clear hna hnb
    go_wp2_with fail
    obtain ⟨X7, hX⟩ : ∃ x, x = w7.heap.size := ⟨_, rfl⟩
    have m7 := heap_alloc_new w7 (.cells #[.int .u64 ga', .int .u32 epa', .int .u64 la', .int .u64 va', .slice qa na qp, .slice qb nb qq] 26)
    have mb := (Below.refl w7.heap.size w7).alloc (Nat.le_refl _) (.cells #[.int .u64 ga', .int .u32 epa', .int .u64 la', .int .u64 va', .slice qa na qp, .slice qb nb qq] 26)
    obtain ⟨W7, hW⟩ : ∃ x, x = w7.alloc (.cells #[.int .u64 ga', .int .u32 epa', .int .u64 la', .int .u64 va', .slice qa na qp, .slice qb nb qq] 26) := ⟨_, rfl⟩
    simp only [← hX, ← hW] at m7 mb ⊢
    rw [hX] at mb
    have hb7 := below_step hbb mb
    have HO7 := HO.out.below mb (Nat.le_refl _)
    have HL7 := HL.out.below mb (Nat.le_refl _)
    obtain ⟨xo7, hxo⟩ : ∃ v, v = Value.slice qa na qp := ⟨_, rfl⟩
    obtain ⟨xl7, hxl⟩ : ∃ v, v = Value.slice qb nb qq := ⟨_, rfl⟩
    simp only [← hxo, ← hxl] at HO7 HL7 m7 ⊢
    clear hX hW mb hbb HO HL hxo hxl
    have RX7 : Hid (∀ V, Below W7.heap.size W7 V → V.heap[X7]? = some (.cells #[.int .u64 ga', .int .u32 epa', .int .u64 la', .int .u64 va', xo7, xl7] 26 (0, 0))) := Lib.hid (fun V h => (h.block _ (lt_of_row m7)).trans m7)
    have SO7 : Hid (Sl W7 xo7 oda') := Lib.hid HO7
    have SN7 : Hid (Sl W7 xl7 lna') := Lib.hid HL7
    clear m7 HO7 HL7
    clear hb4
    have hb77 := Below.refl W7.heap.size W7
    obtain ⟨x0, x1, x2, x3, x4, x5⟩ := cells6 (RX7.out _ hb77)
    have X0r := cell_regrown x0
    have X1r := cell_regrown x1
    have X2r := cell_regrown x2
    have X3r := cell_regrown x3
    have X4r := cell_regrown x4
    have X5r := cell_regrown x5
    clear x0 x1 x2 x3 x4 x5
    obtain ⟨c0, c1, c2, c3, c4, c5⟩ := cells6 (RXa.out _ hb7)
    have C0r := cell_regrown c0
    have C1r := cell_regrown c1
    have C2r := cell_regrown c2
    have C3r := cell_regrown c3
    have C4r := cell_regrown c4
    have C5r := cell_regrown c5
    clear c0 c1 c2 c3 c4 c5
    have s1 := Lib.hid (SO7.out.below hb77 (Nat.le_refl _)).regrown
    have t1 := Lib.hid (SN7.out.below hb77 (Nat.le_refl _)).regrown
    have s2 := Lib.hid (SOa.out.below hb7 (Nat.le_refl _)).regrown
    have t2 := Lib.hid (SNa.out.below hb7 (Nat.le_refl _)).regrown
    clear hb77
    go_wp2_with fail
    refine Loose.wp_region_quiet_fast (by kernel_rfl) (by kernel_rfl) ?_
    (try simp only [List.append_eq, List.cons_append, List.nil_append])
    repeat (go_big_quiet_step (fail))
    go_big_quiet_step ((go_at_call 12; exact Calls.regrown_of (Ref_val (Ck.mk ga' epa' la' va' oda' lna') xo7 xl7 _ (s1.out _ _) (t1.out _ _))))
    repeat (go_big_quiet_step (fail))
    go_big_quiet_step ((go_at_call 12; exact Calls.regrown_of (Ref_val (Ck.mk ga' epa' la' va' oda' lna') uoa ula _ (s2.out _ _) (t2.out _ _))))
    repeat (go_big_quiet_step (fail))
    go_big_quiet_step ((go_at_call 19; exact Calls.regrown_of (Same_any (Ck.mk ga' epa' la' va' oda' lna') (Ck.mk ga' epa' la' va' oda' lna') xo7 xl7 uoa ula _ KCa.out (s1.out _ _) (t1.out _ _) (s2.out _ _) (t2.out _ _) true (Lib.hid (sameB_refl _).symm))))
    repeat (go_big_quiet_step (fail))
    refine wpQuiet_nil ?_
    intro _ hw'
    obtain ⟨⟨dq, osq⟩, hw''⟩ := hw'
    subst hw''
    obtain ⟨S, hS0⟩ : ∃ S, S = s.extract 0 k := ⟨_, rfl⟩
    simp only [← hS0]
    clear hS0
    have hb8 := below_step hb7 (below_regrown W7 dq osq)
    clear hb7 X0r X1r X2r X3r X4r X5r C0r C1r C2r C3r C4r C5r s1 t1 s2 t2
    go_wp2_with fail
    by_cases hS : decOk S
    · have HS := Lib.hid hS
      obtain ⟨ry, ky, oy⟩ := decC_ok S hS
      have d2 := fun V => Decode_val S V
      have e0 : decE S = 0 := if_pos hS
      rw [e0] at d2
      obtain ⟨y, hy⟩ : ∃ y, y = decC S := ⟨_, rfl⟩
      rw [← hy] at ry ky oy d2
      clear hy e0 hS
      obtain ⟨gy, ey, ly, vy, oy', ny'⟩ := y
      simp only [Ck.val] at d2
      have D2 := Lib.hid d2
      have RY := Lib.hid ry
      have KY := Lib.hid ky
      have OY := Lib.hid oy
      clear d2 ry ky oy
      refine (D2.out _).mono ?_; rintro e w9 ⟨⟨xo9, xl9, rfl, ho, hl⟩, hb⟩
      obtain ⟨qa, qp, rfl⟩ := ho.form
      obtain ⟨qb, qq, rfl⟩ := hl.form
      obtain ⟨na, hna⟩ : ∃ m, m = (oy' : List Int).length := ⟨_, rfl⟩
      obtain ⟨nb, hnb⟩ : ∃ m, m = (ny' : List Int).length := ⟨_, rfl⟩
      replace ho : Sl w9 (.slice qa na qp) oy' := by rw [hna]; exact ho
      replace hl : Sl w9 (.slice qb nb qq) ny' := by rw [hnb]; exact hl
      have hbb := below_step hb8 hb
      clear hb
      have HO := Lib.hid ho
      have HL := Lib.hid hl
      clear ho hl
      simp only [← hna, ← hnb]
      clear hna hnb
      go_wp2_with fail
      obtain ⟨X9, hX⟩ : ∃ x, x = w9.heap.size := ⟨_, rfl⟩
      have m9 := heap_alloc_new w9 (.cells #[.int .u64 gy, .int .u32 ey, .int .u64 ly, .int .u64 vy, .slice qa na qp, .slice qb nb qq] 26)
      have mb := (Below.refl w9.heap.size w9).alloc (Nat.le_refl _) (.cells #[.int .u64 gy, .int .u32 ey, .int .u64 ly, .int .u64 vy, .slice qa na qp, .slice qb nb qq] 26)
      obtain ⟨W9, hW⟩ : ∃ x, x = w9.alloc (.cells #[.int .u64 gy, .int .u32 ey, .int .u64 ly, .int .u64 vy, .slice qa na qp, .slice qb nb qq] 26) := ⟨_, rfl⟩
      simp only [← hX, ← hW] at m9 mb ⊢
      rw [hX] at mb
      have hb9 := below_step hbb mb
      have HO9 := HO.out.below mb (Nat.le_refl _)
      have HL9 := HL.out.below mb (Nat.le_refl _)
      obtain ⟨xo9, hxo⟩ : ∃ v, v = Value.slice qa na qp := ⟨_, rfl⟩
      obtain ⟨xl9, hxl⟩ : ∃ v, v = Value.slice qb nb qq := ⟨_, rfl⟩
      simp only [← hxo, ← hxl] at HO9 HL9 m9 ⊢
      clear hX hW mb hbb HO HL hxo hxl
      have RX9 : Hid (∀ V, Below W9.heap.size W9 V → V.heap[X9]? = some (.cells #[.int .u64 gy, .int .u32 ey, .int .u64 ly, .int .u64 vy, xo9, xl9] 26 (0, 0))) := Lib.hid (fun V h => (h.block _ (lt_of_row m9)).trans m9)
      have SO9 : Hid (Sl W9 xo9 oy') := Lib.hid HO9
      have SN9 : Hid (Sl W9 xl9 ny') := Lib.hid HL9
      clear m9 HO9 HL9
      have hb99 := Below.refl W9.heap.size W9
      obtain ⟨z0, z1, z2, z3, z4, z5⟩ := cells6 (RX9.out _ hb99)
      go_wp2_with fail
      clear z0 z1 z2 z3 z4 z5
      refine (Encode_val (Ck.mk gy ey ly vy oy' ny') xo9 xl9 W9 KY.out SO9.out SN9.out S 0 (Lib.hid OY.out.symm) (Lib.hid (if_pos RY.out).symm)).mono ?_; rintro e w10 ⟨rfl, hb10⟩
      obtain ⟨z0, z1, z2, z3, z4, z5⟩ := cells6 (RX9.out _ hb10)
      go_wp2_with fail
      clear z0 z1 z2 z3 z4 z5
      refine (Right_val (Ck.mk gy ey ly vy oy' ny') xo9 xl9 _ KY.out (SO9.out.below hb10 (Nat.le_refl _)) (SN9.out.below hb10 (Nat.le_refl _)) true (Lib.hid (decide_eq_true RY.out).symm)).mono ?_; rintro e w11 ⟨rfl, hb11⟩
      have hbf := below_step PB.out (below_step hb9 (below_step hb10 hb11))
      clear hb9 hb10 hb11 hb99
      go_wp2_with fail
      refine (fixed_val _).mono ?_; rintro e w12 ⟨rfl, hb12⟩
      go_wp2_with fail
      go_ret
      exact ⟨rfl, below_step hbf hb12⟩
    · have d2 := fun V => Decode_val S V
      have e0 : decE S = 5 := if_neg hS
      have e1 : decC S = noCk := if_neg hS
      rw [e0, e1] at d2
      simp only [noCk_val] at d2
      have D2 := Lib.hid d2
      clear d2 e0 e1 hS
      refine (D2.out _).mono ?_; rintro e w9 ⟨⟨xo9, xl9, rfl, ho, hl⟩, hb⟩
      obtain ⟨qa, qp, rfl⟩ := ho.form
      obtain ⟨qb, qq, rfl⟩ := hl.form
      obtain ⟨na, hna⟩ : ∃ m, m = (noCk.order : List Int).length := ⟨_, rfl⟩
      obtain ⟨nb, hnb⟩ : ∃ m, m = (noCk.lens : List Int).length := ⟨_, rfl⟩
      replace ho : Sl w9 (.slice qa na qp) noCk.order := by rw [hna]; exact ho
      replace hl : Sl w9 (.slice qb nb qq) noCk.lens := by rw [hnb]; exact hl
      have hbb := below_step hb8 hb
      clear hb
      have HO := Lib.hid ho
      have HL := Lib.hid hl
      clear ho hl
      simp only [← hna, ← hnb]
      clear hna hnb
      go_wp2_with fail
      obtain ⟨X9, hX⟩ : ∃ x, x = w9.heap.size := ⟨_, rfl⟩
      have m9 := heap_alloc_new w9 (.cells #[.int .u64 0, .int .u32 0, .int .u64 0, .int .u64 0, .slice qa na qp, .slice qb nb qq] 26)
      have mb := (Below.refl w9.heap.size w9).alloc (Nat.le_refl _) (.cells #[.int .u64 0, .int .u32 0, .int .u64 0, .int .u64 0, .slice qa na qp, .slice qb nb qq] 26)
      obtain ⟨W9, hW⟩ : ∃ x, x = w9.alloc (.cells #[.int .u64 0, .int .u32 0, .int .u64 0, .int .u64 0, .slice qa na qp, .slice qb nb qq] 26) := ⟨_, rfl⟩
      simp only [← hX, ← hW] at m9 mb ⊢
      rw [hX] at mb
      have hb9 := below_step hbb mb
      have HO9 := HO.out.below mb (Nat.le_refl _)
      have HL9 := HL.out.below mb (Nat.le_refl _)
      obtain ⟨xo9, hxo⟩ : ∃ v, v = Value.slice qa na qp := ⟨_, rfl⟩
      obtain ⟨xl9, hxl⟩ : ∃ v, v = Value.slice qb nb qq := ⟨_, rfl⟩
      simp only [← hxo, ← hxl] at HO9 HL9 m9 ⊢
      clear hX hW mb hbb HO HL hxo hxl
      have RX9 : Hid (∀ V, Below W9.heap.size W9 V → V.heap[X9]? = some (.cells #[.int .u64 0, .int .u32 0, .int .u64 0, .int .u64 0, xo9, xl9] 26 (0, 0))) := Lib.hid (fun V h => (h.block _ (lt_of_row m9)).trans m9)
      have SO9 : Hid (Sl W9 xo9 noCk.order) := Lib.hid HO9
      have SN9 : Hid (Sl W9 xl9 noCk.lens) := Lib.hid HL9
      clear m9 HO9 HL9
      have hb99 := Below.refl W9.heap.size W9
      obtain ⟨z0, z1, z2, z3, z4, z5⟩ := cells6 (RX9.out _ hb99)
      go_wp2_with fail
      clear z0 z1 z2 z3 z4 z5
      refine (Ref_val noCk xo9 xl9 W9 SO9.out SN9.out).mono ?_; rintro e w10 ⟨rfl, hb10⟩
      simp only [noCk_val]
      go_wp2_with fail
      refine (Same_any noCk noCk xo9 xl9 (.slice none 0 0) (.slice none 0 0) _ noCk_kind (SO9.out.below hb10 (Nat.le_refl _)) (SN9.out.below hb10 (Nat.le_refl _)) (Or.inl ⟨rfl, none, 0, rfl, fun _ => rfl⟩) (Or.inl ⟨rfl, none, 0, rfl, fun _ => rfl⟩) true (Lib.hid (sameB_refl _).symm)).mono ?_; rintro e w11 ⟨rfl, hb11⟩
      have hbf := below_step PB.out (below_step hb9 (below_step hb10 hb11))
      clear hb9 hb10 hb11 hb99
      go_wp2_with fail
      refine (fixed_val _).mono ?_; rintro e w12 ⟨rfl, hb12⟩
      go_wp2_with fail
      go_ret
      exact ⟨rfl, below_step hbf hb12⟩
  · have HAa := Lib.hid hAa
    clear hAa
    have hbE := Below.refl W.heap.size W
    refine (Encode_val (Ck.mk ga' epa' la' va' oda' lna') uoa ula W KCa.out (SOa.out.below hbE (Nat.le_refl _)) (SNa.out.below hbE (Nat.le_refl _)) ⟨#[]⟩ 5 (Lib.hid (if_neg HAa.out).symm) (Lib.hid (if_neg HAa.out).symm)).mono ?_; rintro e w3 ⟨rfl, hb3⟩
    clear hbE
    obtain ⟨z0, z1, z2, z3, z4, z5⟩ := cells6 (RXa.out _ hb3)
    go_wp2_with fail
    clear z0 z1 z2 z3 z4 z5
    refine (Right_val (Ck.mk ga' epa' la' va' oda' lna') uoa ula _ KCa.out (SOa.out.below hb3 (Nat.le_refl _)) (SNa.out.below hb3 (Nat.le_refl _)) false (Lib.hid (decide_eq_false HAa.out).symm)).mono ?_; rintro e w4 ⟨rfl, hb⟩
    have hb4 := below_step hb3 hb
    clear hb hb3
    obtain ⟨S, hS0⟩ : ∃ S, S = s.extract 0 k := ⟨_, rfl⟩
    simp only [← hS0]
    clear hS0
    go_wp2_with fail
    by_cases hS : decOk S
    · have HS := Lib.hid hS
      obtain ⟨ry, ky, oy⟩ := decC_ok S hS
      have d2 := fun V => Decode_val S V
      have e0 : decE S = 0 := if_pos hS
      rw [e0] at d2
      obtain ⟨y, hy⟩ : ∃ y, y = decC S := ⟨_, rfl⟩
      rw [← hy] at ry ky oy d2
      clear hy e0 hS
      obtain ⟨gy, ey, ly, vy, oy', ny'⟩ := y
      simp only [Ck.val] at d2
      have D2 := Lib.hid d2
      have RY := Lib.hid ry
      have KY := Lib.hid ky
      have OY := Lib.hid oy
      clear d2 ry ky oy
      refine (D2.out _).mono ?_; rintro e w9 ⟨⟨xo9, xl9, rfl, ho, hl⟩, hb⟩
      obtain ⟨qa, qp, rfl⟩ := ho.form
      obtain ⟨qb, qq, rfl⟩ := hl.form
      obtain ⟨na, hna⟩ : ∃ m, m = (oy' : List Int).length := ⟨_, rfl⟩
      obtain ⟨nb, hnb⟩ : ∃ m, m = (ny' : List Int).length := ⟨_, rfl⟩
      replace ho : Sl w9 (.slice qa na qp) oy' := by rw [hna]; exact ho
      replace hl : Sl w9 (.slice qb nb qq) ny' := by rw [hnb]; exact hl
      have hbb := below_step hb4 hb
      clear hb
      have HO := Lib.hid ho
      have HL := Lib.hid hl
      clear ho hl
      simp only [← hna, ← hnb]
      clear hna hnb
      go_wp2_with fail
      obtain ⟨X9, hX⟩ : ∃ x, x = w9.heap.size := ⟨_, rfl⟩
      have m9 := heap_alloc_new w9 (.cells #[.int .u64 gy, .int .u32 ey, .int .u64 ly, .int .u64 vy, .slice qa na qp, .slice qb nb qq] 26)
      have mb := (Below.refl w9.heap.size w9).alloc (Nat.le_refl _) (.cells #[.int .u64 gy, .int .u32 ey, .int .u64 ly, .int .u64 vy, .slice qa na qp, .slice qb nb qq] 26)
      obtain ⟨W9, hW⟩ : ∃ x, x = w9.alloc (.cells #[.int .u64 gy, .int .u32 ey, .int .u64 ly, .int .u64 vy, .slice qa na qp, .slice qb nb qq] 26) := ⟨_, rfl⟩
      simp only [← hX, ← hW] at m9 mb ⊢
      rw [hX] at mb
      have hb9 := below_step hbb mb
      have HO9 := HO.out.below mb (Nat.le_refl _)
      have HL9 := HL.out.below mb (Nat.le_refl _)
      obtain ⟨xo9, hxo⟩ : ∃ v, v = Value.slice qa na qp := ⟨_, rfl⟩
      obtain ⟨xl9, hxl⟩ : ∃ v, v = Value.slice qb nb qq := ⟨_, rfl⟩
      simp only [← hxo, ← hxl] at HO9 HL9 m9 ⊢
      clear hX hW mb hbb HO HL hxo hxl
      have RX9 : Hid (∀ V, Below W9.heap.size W9 V → V.heap[X9]? = some (.cells #[.int .u64 gy, .int .u32 ey, .int .u64 ly, .int .u64 vy, xo9, xl9] 26 (0, 0))) := Lib.hid (fun V h => (h.block _ (lt_of_row m9)).trans m9)
      have SO9 : Hid (Sl W9 xo9 oy') := Lib.hid HO9
      have SN9 : Hid (Sl W9 xl9 ny') := Lib.hid HL9
      clear m9 HO9 HL9
      have hb99 := Below.refl W9.heap.size W9
      obtain ⟨z0, z1, z2, z3, z4, z5⟩ := cells6 (RX9.out _ hb99)
      go_wp2_with fail
      clear z0 z1 z2 z3 z4 z5
      refine (Encode_val (Ck.mk gy ey ly vy oy' ny') xo9 xl9 W9 KY.out SO9.out SN9.out S 0 (Lib.hid OY.out.symm) (Lib.hid (if_pos RY.out).symm)).mono ?_; rintro e w10 ⟨rfl, hb10⟩
      obtain ⟨z0, z1, z2, z3, z4, z5⟩ := cells6 (RX9.out _ hb10)
      go_wp2_with fail
      clear z0 z1 z2 z3 z4 z5
      refine (Right_val (Ck.mk gy ey ly vy oy' ny') xo9 xl9 _ KY.out (SO9.out.below hb10 (Nat.le_refl _)) (SN9.out.below hb10 (Nat.le_refl _)) true (Lib.hid (decide_eq_true RY.out).symm)).mono ?_; rintro e w11 ⟨rfl, hb11⟩
      have hbf := below_step PB.out (below_step hb9 (below_step hb10 hb11))
      clear hb9 hb10 hb11 hb99
      go_wp2_with fail
      refine (fixed_val _).mono ?_; rintro e w12 ⟨rfl, hb12⟩
      go_wp2_with fail
      go_ret
      exact ⟨rfl, below_step hbf hb12⟩
    · have d2 := fun V => Decode_val S V
      have e0 : decE S = 5 := if_neg hS
      have e1 : decC S = noCk := if_neg hS
      rw [e0, e1] at d2
      simp only [noCk_val] at d2
      have D2 := Lib.hid d2
      clear d2 e0 e1 hS
      refine (D2.out _).mono ?_; rintro e w9 ⟨⟨xo9, xl9, rfl, ho, hl⟩, hb⟩
      obtain ⟨qa, qp, rfl⟩ := ho.form
      obtain ⟨qb, qq, rfl⟩ := hl.form
      obtain ⟨na, hna⟩ : ∃ m, m = (noCk.order : List Int).length := ⟨_, rfl⟩
      obtain ⟨nb, hnb⟩ : ∃ m, m = (noCk.lens : List Int).length := ⟨_, rfl⟩
      replace ho : Sl w9 (.slice qa na qp) noCk.order := by rw [hna]; exact ho
      replace hl : Sl w9 (.slice qb nb qq) noCk.lens := by rw [hnb]; exact hl
      have hbb := below_step hb4 hb
      clear hb
      have HO := Lib.hid ho
      have HL := Lib.hid hl
      clear ho hl
      simp only [← hna, ← hnb]
      clear hna hnb
      go_wp2_with fail
      obtain ⟨X9, hX⟩ : ∃ x, x = w9.heap.size := ⟨_, rfl⟩
      have m9 := heap_alloc_new w9 (.cells #[.int .u64 0, .int .u32 0, .int .u64 0, .int .u64 0, .slice qa na qp, .slice qb nb qq] 26)
      have mb := (Below.refl w9.heap.size w9).alloc (Nat.le_refl _) (.cells #[.int .u64 0, .int .u32 0, .int .u64 0, .int .u64 0, .slice qa na qp, .slice qb nb qq] 26)
      obtain ⟨W9, hW⟩ : ∃ x, x = w9.alloc (.cells #[.int .u64 0, .int .u32 0, .int .u64 0, .int .u64 0, .slice qa na qp, .slice qb nb qq] 26) := ⟨_, rfl⟩
      simp only [← hX, ← hW] at m9 mb ⊢
      rw [hX] at mb
      have hb9 := below_step hbb mb
      have HO9 := HO.out.below mb (Nat.le_refl _)
      have HL9 := HL.out.below mb (Nat.le_refl _)
      obtain ⟨xo9, hxo⟩ : ∃ v, v = Value.slice qa na qp := ⟨_, rfl⟩
      obtain ⟨xl9, hxl⟩ : ∃ v, v = Value.slice qb nb qq := ⟨_, rfl⟩
      simp only [← hxo, ← hxl] at HO9 HL9 m9 ⊢
      clear hX hW mb hbb HO HL hxo hxl
      have RX9 : Hid (∀ V, Below W9.heap.size W9 V → V.heap[X9]? = some (.cells #[.int .u64 0, .int .u32 0, .int .u64 0, .int .u64 0, xo9, xl9] 26 (0, 0))) := Lib.hid (fun V h => (h.block _ (lt_of_row m9)).trans m9)
      have SO9 : Hid (Sl W9 xo9 noCk.order) := Lib.hid HO9
      have SN9 : Hid (Sl W9 xl9 noCk.lens) := Lib.hid HL9
      clear m9 HO9 HL9
      have hb99 := Below.refl W9.heap.size W9
      obtain ⟨z0, z1, z2, z3, z4, z5⟩ := cells6 (RX9.out _ hb99)
      go_wp2_with fail
      clear z0 z1 z2 z3 z4 z5
      refine (Ref_val noCk xo9 xl9 W9 SO9.out SN9.out).mono ?_; rintro e w10 ⟨rfl, hb10⟩
      simp only [noCk_val]
      go_wp2_with fail
      refine (Same_any noCk noCk xo9 xl9 (.slice none 0 0) (.slice none 0 0) _ noCk_kind (SO9.out.below hb10 (Nat.le_refl _)) (SN9.out.below hb10 (Nat.le_refl _)) (Or.inl ⟨rfl, none, 0, rfl, fun _ => rfl⟩) (Or.inl ⟨rfl, none, 0, rfl, fun _ => rfl⟩) true (Lib.hid (sameB_refl _).symm)).mono ?_; rintro e w11 ⟨rfl, hb11⟩
      have hbf := below_step PB.out (below_step hb9 (below_step hb10 hb11))
      clear hb9 hb10 hb11 hb99
      go_wp2_with fail
      refine (fixed_val _).mono ?_; rintro e w12 ⟨rfl, hb12⟩
      go_wp2_with fail
      go_ret
      exact ⟨rfl, below_step hbf hb12⟩
theorem CkptBack_walk (v0 : Value) (a1 : ByteArray) (w : World) (o0 : Row.Opn Try.prog w 26 v0) (w1 : a1.size ≤ 140737488351232) :
    Calls Try.prog 4 #[v0, .string a1] w fun e w' => e = .returned (.bool true) ∧ Below w.heap.size w w' := by
  obtain ⟨ca, voa, vla, rfl, hka, hoa, hla⟩ := open_check o0
  exact back_main ca voa vla a1 w hka hoa hla w1
end Go.Proofs.Ytieijelbflkpeaa.L
