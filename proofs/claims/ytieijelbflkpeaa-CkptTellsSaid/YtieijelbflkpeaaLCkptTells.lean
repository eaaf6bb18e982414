/- CkptTells: whatever the checkpoint and the bytes, the law answers true. No condition. -/
import Derived.Test.YtieijelbflkpeaaGCkY
import Derived.Test.YtieijelbflkpeaaGFast
namespace Go.Proofs.Ytieijelbflkpeaa.L
open Go.RowKit Go.Proofs.Ytieijelbflkpeaa.G Go.Proofs.Ytieijelbflkpeaa.Loose Go.Proofs.Ytieijelbflkpeaa.CrcPlain Go.Proofs.Ytieijelbflkpeaa.WordPlain
set_option linter.unusedVariables false
set_option linter.unusedSimpArgs false

set_option maxRecDepth 100000 in
set_option maxHeartbeats 4000000 in
theorem tells_main (ca : Ck) (voa vla : Value) (s t : ByteArray) (w : World) (hka : ca.Kind) (hoa : Sl w voa ca.order) (hla : Sl w vla ca.lens) (hsz : s.size ≤ 140737488351232) (htz : t.size ≤ 140737488351232) :
    Calls Try.prog 3 #[ca.val voa vla, .string s, .string t] w fun e w' => e = .returned (.bool true) ∧ Below w.heap.size w w' := by
  obtain ⟨k, hkk⟩ : ∃ k, k = min s.size 130 := ⟨_, rfl⟩
  obtain ⟨j, hjj⟩ : ∃ k, k = min t.size 130 := ⟨_, rfl⟩
  have hmin : ∀ W, (Builtin.min_ #[3, 3] 3 #[.int .i64 (s.size : Int), .int .i64 130]).run Try.prog W = .ok (.int .i64 (k : Int)) W := by
    intro W
    rw [run_min2, show min (s.size : Int) 130 = (k : Int) from by omega]
  have hmin2 : ∀ W, (Builtin.min_ #[3, 3] 3 #[.int .i64 (t.size : Int), .int .i64 130]).run Try.prog W = .ok (.int .i64 (j : Int)) W := by
    intro W
    rw [run_min2, show min (t.size : Int) 130 = (j : Int) from by omega]
  have hks : ¬ (s.size : Int) < (k : Int) := by omega
  have hjs : ¬ (t.size : Int) < (j : Int) := by omega
  have hS : (s.extract 0 k).size ≤ 140737488351232 := by rw [ByteArray.size_extract]; omega
  have hT : (t.extract 0 j).size ≤ 140737488351232 := by rw [ByteArray.size_extract]; omega
  clear hkk hjj hsz htz
  obtain ⟨uoa, ula, sua, sla, cuta⟩ := Cut_val ca voa vla w hoa hla
  have kca := hka.cut
  obtain ⟨da, hd⟩ : ∃ c, c = ca.cut := ⟨_, rfl⟩
  rw [← hd] at sua sla cuta kca
  clear hd
  obtain ⟨oaa, capa, rfl⟩ := hoa.form
  obtain ⟨oba, cbpa, rfl⟩ := hla.form
  obtain ⟨paa, dapa, rfl⟩ := sua.form
  obtain ⟨pba, dbpa, rfl⟩ := sla.form
  clear hoa hla hka
  obtain ⟨ga, epa, la, va, oda, lna⟩ := ca
  obtain ⟨ga', epa', la', va', oda', lna'⟩ := da
  simp only [Ck.val] at cuta sua sla ⊢
  obtain ⟨ma, hm⟩ : ∃ m, m = oda.length := ⟨_, rfl⟩
  simp only [← hm] at cuta ⊢
  clear hm
  obtain ⟨na, hm⟩ : ∃ m, m = lna.length := ⟨_, rfl⟩
  simp only [← hm] at cuta ⊢
  clear hm
  obtain ⟨ra, hra⟩ : ∃ m, m = oda'.length := ⟨_, rfl⟩
  simp only [← hra] at cuta sua ⊢
  obtain ⟨sa, hsa⟩ : ∃ m, m = lna'.length := ⟨_, rfl⟩
  simp only [← hsa] at cuta sla ⊢
  have HRa := Lib.hid hra
  have HSa := Lib.hid hsa
  have SUa := Lib.hid sua
  have SLa := Lib.hid sla
  have CUTa := Lib.hid cuta
  have KCa := Lib.hid kca
  clear hra hsa sua sla cuta kca
  go_enter Try.func3, Try.ntmps3
  obtain ⟨W0, hW0⟩ : ∃ x, x = (w.alloc (.cells #[.int .u64 ga, .int .u32 epa, .int .u64 la, .int .u64 va, .slice oaa ma capa, .slice oba na cbpa] 26)) := ⟨_, rfl⟩
  have xa0 := heap_alloc_new w (.cells #[.int .u64 ga, .int .u32 epa, .int .u64 la, .int .u64 va, .slice oaa ma capa, .slice oba na cbpa] 26)
  have pb0 := (Below.refl w.heap.size w).alloc (Nat.le_refl _) (.cells #[.int .u64 ga, .int .u32 epa, .int .u64 la, .int .u64 va, .slice oaa ma capa, .slice oba na cbpa] 26)
  rw [← hW0] at xa0 pb0
  have Xa0 := Lib.hid xa0
  have PB0 := Lib.hid pb0
  have HW0 := Lib.hid hW0
  clear pb0 hW0 xa0
  go_wp2_with fail
  rw [← HW0.out]
  refine (CUTa.out _).mono ?_; rintro e w1 ⟨rfl, hb⟩
  have ya := (hb.block _ (lt_of_row Xa0.out)).trans Xa0.out
  have pb := below_step PB0.out hb
  clear hb
  have OLD := Lib.hid ya
  have ONE : Hid ((#[.int .u64 ga', .int .u32 epa', .int .u64 la', .int .u64 va', .slice paa ra dapa, .slice pba sa dbpa] : Array Value).all (·.oneCell') = true) := Lib.hid (by simp [Value.oneCell'])
  obtain ⟨W1, hW⟩ : ∃ z, z = w1.setRow w.heap.size #[.int .u64 ga', .int .u32 epa', .int .u64 la', .int .u64 va', .slice paa ra dapa, .slice pba sa dbpa] := ⟨_, rfl⟩
  have pb' := pb.setRow (show w.heap.size ≤ w.heap.size by omega) #[.int .u64 ga', .int .u32 epa', .int .u64 la', .int .u64 va', .slice paa ra dapa, .slice pba sa dbpa]
  rw [← hW] at pb'
  have Xa1 := Lib.hid (setRow_heap w1 w.heap.size _ #[.int .u64 ga', .int .u32 epa', .int .u64 la', .int .u64 va', .slice paa ra dapa, .slice pba sa dbpa] _ _ ya)
  simp only [← hW] at Xa1
  have PB1 := Lib.hid pb'
  have HW := Lib.hid hW
  clear pb pb' hW ya
  obtain ⟨z0, z1, z2, z3, z4, z5⟩ := cells6 Xa1.out
  rw [HW.out] at z0 z1 z2 z3 z4 z5
  go_wp2_with (refine wpList_store_row rfl 26 _ _ rfl w.heap.size #[.int .u64 ga', .int .u32 epa', .int .u64 la', .int .u64 va', .slice paa ra dapa, .slice pba sa dbpa] rfl rfl _ _ OLD.out (by kernel_rfl) rfl ONE.out ?_)
  rw [← HW.out]
  clear z0 z1 z2 z3 z4 z5 OLD ONE HW
  obtain ⟨W, hW⟩ : ∃ z, z = W1 := ⟨_, rfl⟩
  rw [← hW] at PB1 Xa1 ⊢
  clear hW
  have PB := PB1
  obtain ⟨Aa, hAa⟩ : ∃ z, z = w.heap.size := ⟨_, rfl⟩
  simp only [← hAa] at Xa1 ⊢
  clear hAa
  have su := SUa.out.below PB.out (Nat.le_refl _)
  have sl := SLa.out.below PB.out (Nat.le_refl _)
  obtain ⟨uoa, ho⟩ : ∃ z, z = Value.slice paa ra dapa := ⟨_, rfl⟩
  obtain ⟨ula, hl⟩ : ∃ z, z = Value.slice pba sa dbpa := ⟨_, rfl⟩
  have xr := Xa1.out
  simp only [← ho, ← hl] at su sl xr ⊢
  clear ho hl
  have SOa := Lib.hid su
  have SNa := Lib.hid sl
  have RXa : Hid (∀ V, Below W.heap.size W V → V.heap[Aa]? = some (.cells #[.int .u64 ga', .int .u32 epa', .int .u64 la', .int .u64 va', uoa, ula] 26 (0, 0))) := Lib.hid (fun V h => (h.block _ (lt_of_row xr)).trans xr)
  clear su sl xr
  clear SUa SLa CUTa Xa0 Xa1 PB0 PB1 HW0
  obtain ⟨S, hS0⟩ : ∃ S, S = s.extract 0 k := ⟨_, rfl⟩
  obtain ⟨Q, hT0⟩ : ∃ S, S = t.extract 0 j := ⟨_, rfl⟩
  simp only [← hS0, ← hT0] at hS hT ⊢
  clear hS0 hT0 hmin hmin2 hks hjs
  have d1 := fun V => Decode_val S V
  have d2 := fun V => rDecode_val S V hS
  have b1 := fun V => Best_val S Q V
  have b2 := fun V => rBest_val S Q V hS hT
  have ky := decC_kind S
  have ku : (bestC S Q).Kind := by
    unfold bestC
    split
    · exact decC_kind Q
    · exact decC_kind S
  obtain ⟨y, hy⟩ : ∃ y, y = decC S := ⟨_, rfl⟩
  obtain ⟨u, hu⟩ : ∃ y, y = bestC S Q := ⟨_, rfl⟩
  obtain ⟨xe, hx⟩ : ∃ y, y = decE S := ⟨_, rfl⟩
  obtain ⟨xi, hi⟩ : ∃ y, y = bestI S Q := ⟨_, rfl⟩
  obtain ⟨xb, hb⟩ : ∃ y, y = bestE S Q := ⟨_, rfl⟩
  simp only [← hy, ← hu, ← hx, ← hi, ← hb] at d1 d2 b1 b2 ky ku
  clear hy hu hx hi hb hS hT
  obtain ⟨gy, ey, ly, vy, oy, ny⟩ := y
  obtain ⟨gu, eu, lu, vu, ou, nu⟩ := u
  simp only [Ck.val] at d1 d2 b1 b2
  have D1 := Lib.hid d1
  have D2 := Lib.hid d2
  have B1 := Lib.hid b1
  have B2 := Lib.hid b2
  have KY := Lib.hid ky
  have KU := Lib.hid ku
  obtain ⟨za, hz⟩ : ∃ z, z = (Ck.mk ga' epa' la' va' oda' lna').out := ⟨_, rfl⟩
  obtain ⟨xa, hx⟩ : ∃ z, z = (Ck.mk ga' epa' la' va' oda' lna').err := ⟨_, rfl⟩
  obtain ⟨ra, hr⟩ : ∃ z, z = decide (Ck.mk ga' epa' la' va' oda' lna').Right := ⟨_, rfl⟩
  have Hza := Lib.hid hz
  have Hxa := Lib.hid hx
  have Hra := Lib.hid hr
  clear d1 d2 b1 b2 ky ku hz hx hr
  refine (Encode_val (Ck.mk ga' epa' la' va' oda' lna') uoa ula W KCa.out SOa.out SNa.out za xa Hza Hxa).mono ?_; rintro e w3 ⟨rfl, hb3⟩
  obtain ⟨z0, z1, z2, z3, z4, z5⟩ := cells6 (RXa.out _ hb3)
  go_wp2_with fail
  clear z0 z1 z2 z3 z4 z5
  refine (Ref_val (Ck.mk ga' epa' la' va' oda' lna') uoa ula _ (SOa.out.below hb3 (Nat.le_refl _)) (SNa.out.below hb3 (Nat.le_refl _))).mono ?_; rintro e w4 ⟨rfl, hb⟩
  have hb4 := below_step hb3 hb
  clear hb hb3
  simp only [Ck.val]
  go_wp2_with fail
  refine (rEncode_val (Ck.mk ga' epa' la' va' oda' lna') uoa ula _ KCa.out (SOa.out.below hb4 (Nat.le_refl _)) (SNa.out.below hb4 (Nat.le_refl _)) za xa Hza Hxa).mono ?_; rintro e w5 ⟨rfl, hb⟩
  have hb5 := below_step hb4 hb
  clear hb hb4
  go_wp2_with fail
  refine (D1.out _).mono ?_; rintro e w11 ⟨⟨xo11, xl11, rfl, ho, hl⟩, hb⟩
  obtain ⟨qa, qp, rfl⟩ := ho.form
  obtain ⟨qb, qq, rfl⟩ := hl.form
  obtain ⟨na, hna⟩ : ∃ m, m = (oy : List Int).length := ⟨_, rfl⟩
  obtain ⟨nb, hnb⟩ : ∃ m, m = (ny : List Int).length := ⟨_, rfl⟩
  replace ho : Sl w11 (.slice qa na qp) oy := by rw [hna]; exact ho
  replace hl : Sl w11 (.slice qb nb qq) ny := by rw [hnb]; exact hl
  have hbb := below_step hb5 hb
  clear hb
  have HO := Lib.hid ho
  have HL := Lib.hid hl
  clear ho hl
  simp only [← hna, ← hnb]
  clear hna hnb
  go_wp2_with fail
  obtain ⟨X11, hX⟩ : ∃ x, x = w11.heap.size := ⟨_, rfl⟩
  have m11 := heap_alloc_new w11 (.cells #[.int .u64 gy, .int .u32 ey, .int .u64 ly, .int .u64 vy, .slice qa na qp, .slice qb nb qq] 26)
  have mb := (Below.refl w11.heap.size w11).alloc (Nat.le_refl _) (.cells #[.int .u64 gy, .int .u32 ey, .int .u64 ly, .int .u64 vy, .slice qa na qp, .slice qb nb qq] 26)
  obtain ⟨W11, hW⟩ : ∃ x, x = w11.alloc (.cells #[.int .u64 gy, .int .u32 ey, .int .u64 ly, .int .u64 vy, .slice qa na qp, .slice qb nb qq] 26) := ⟨_, rfl⟩
  simp only [← hX, ← hW] at m11 mb ⊢
  rw [hX] at mb
  have hb11 := below_step hbb mb
  have HO11 := HO.out.below mb (Nat.le_refl _)
  have HL11 := HL.out.below mb (Nat.le_refl _)
  obtain ⟨xo11, hxo⟩ : ∃ v, v = Value.slice qa na qp := ⟨_, rfl⟩
  obtain ⟨xl11, hxl⟩ : ∃ v, v = Value.slice qb nb qq := ⟨_, rfl⟩
  simp only [← hxo, ← hxl] at HO11 HL11 m11 ⊢
  clear hX hW mb hbb HO HL hxo hxl
  have RX11 : Hid (∀ V, Below W11.heap.size W11 V → V.heap[X11]? = some (.cells #[.int .u64 gy, .int .u32 ey, .int .u64 ly, .int .u64 vy, xo11, xl11] 26 (0, 0))) := Lib.hid (fun V h => (h.block _ (lt_of_row m11)).trans m11)
  have SO11 : Hid (Sl W11 xo11 oy) := Lib.hid HO11
  have SN11 : Hid (Sl W11 xl11 ny) := Lib.hid HL11
  clear m11 HO11 HL11
  clear hb5
  have q11 := Below.refl W11.heap.size W11
  refine (D2.out _).mono ?_; rintro e w13 ⟨⟨xo13, xl13, rfl, ho, hl⟩, hb⟩
  obtain ⟨qa, qp, rfl⟩ := ho.form
  obtain ⟨qb, qq, rfl⟩ := hl.form
  obtain ⟨na, hna⟩ : ∃ m, m = (oy : List Int).length := ⟨_, rfl⟩
  obtain ⟨nb, hnb⟩ : ∃ m, m = (ny : List Int).length := ⟨_, rfl⟩
  replace ho : Sl w13 (.slice qa na qp) oy := by rw [hna]; exact ho
  replace hl : Sl w13 (.slice qb nb qq) ny := by rw [hnb]; exact hl
  have hbb := below_step q11 hb
  clear hb
  have HO := Lib.hid ho
  have HL := Lib.hid hl
  clear ho hl
  simp only [← hna, ← hnb]
  clear hna hnb
  go_wp2_with fail
  obtain ⟨X13, hX⟩ : ∃ x, x = w13.heap.size := ⟨_, rfl⟩
  have m13 := heap_alloc_new w13 (.cells #[.int .u64 gy, .int .u32 ey, .int .u64 ly, .int .u64 vy, .slice qa na qp, .slice qb nb qq] 32)
  have mb := (Below.refl w13.heap.size w13).alloc (Nat.le_refl _) (.cells #[.int .u64 gy, .int .u32 ey, .int .u64 ly, .int .u64 vy, .slice qa na qp, .slice qb nb qq] 32)
  obtain ⟨W13, hW⟩ : ∃ x, x = w13.alloc (.cells #[.int .u64 gy, .int .u32 ey, .int .u64 ly, .int .u64 vy, .slice qa na qp, .slice qb nb qq] 32) := ⟨_, rfl⟩
  simp only [← hX, ← hW] at m13 mb ⊢
  rw [hX] at mb
  have hb13 := below_step hbb mb
  have HO13 := HO.out.below mb (Nat.le_refl _)
  have HL13 := HL.out.below mb (Nat.le_refl _)
  obtain ⟨xo13, hxo⟩ : ∃ v, v = Value.slice qa na qp := ⟨_, rfl⟩
  obtain ⟨xl13, hxl⟩ : ∃ v, v = Value.slice qb nb qq := ⟨_, rfl⟩
  simp only [← hxo, ← hxl] at HO13 HL13 m13 ⊢
  clear hX hW mb hbb HO HL hxo hxl
  have RX13 : Hid (∀ V, Below W13.heap.size W13 V → V.heap[X13]? = some (.cells #[.int .u64 gy, .int .u32 ey, .int .u64 ly, .int .u64 vy, xo13, xl13] 32 (0, 0))) := Lib.hid (fun V h => (h.block _ (lt_of_row m13)).trans m13)
  have SO13 : Hid (Sl W13 xo13 oy) := Lib.hid HO13
  have SN13 : Hid (Sl W13 xl13 ny) := Lib.hid HL13
  clear m13 HO13 HL13
  clear q11
  have q13 := Below.refl W13.heap.size W13
  refine (B1.out _).mono ?_; rintro e w15 ⟨⟨xo15, xl15, rfl, ho, hl⟩, hb⟩
  obtain ⟨qa, qp, rfl⟩ := ho.form
  obtain ⟨qb, qq, rfl⟩ := hl.form
  obtain ⟨na, hna⟩ : ∃ m, m = (ou : List Int).length := ⟨_, rfl⟩
  obtain ⟨nb, hnb⟩ : ∃ m, m = (nu : List Int).length := ⟨_, rfl⟩
  replace ho : Sl w15 (.slice qa na qp) ou := by rw [hna]; exact ho
  replace hl : Sl w15 (.slice qb nb qq) nu := by rw [hnb]; exact hl
  have hbb := below_step q13 hb
  clear hb
  have HO := Lib.hid ho
  have HL := Lib.hid hl
  clear ho hl
  simp only [← hna, ← hnb]
  clear hna hnb
  go_wp2_with fail
  obtain ⟨X15, hX⟩ : ∃ x, x = w15.heap.size := ⟨_, rfl⟩
  have m15 := heap_alloc_new w15 (.cells #[.int .u64 gu, .int .u32 eu, .int .u64 lu, .int .u64 vu, .slice qa na qp, .slice qb nb qq] 26)
  have mb := (Below.refl w15.heap.size w15).alloc (Nat.le_refl _) (.cells #[.int .u64 gu, .int .u32 eu, .int .u64 lu, .int .u64 vu, .slice qa na qp, .slice qb nb qq] 26)
  obtain ⟨W15, hW⟩ : ∃ x, x = w15.alloc (.cells #[.int .u64 gu, .int .u32 eu, .int .u64 lu, .int .u64 vu, .slice qa na qp, .slice qb nb qq] 26) := ⟨_, rfl⟩
  simp only [← hX, ← hW] at m15 mb ⊢
  rw [hX] at mb
  have hb15 := below_step hbb mb
  have HO15 := HO.out.below mb (Nat.le_refl _)
  have HL15 := HL.out.below mb (Nat.le_refl _)
  obtain ⟨xo15, hxo⟩ : ∃ v, v = Value.slice qa na qp := ⟨_, rfl⟩
  obtain ⟨xl15, hxl⟩ : ∃ v, v = Value.slice qb nb qq := ⟨_, rfl⟩
  simp only [← hxo, ← hxl] at HO15 HL15 m15 ⊢
  clear hX hW mb hbb HO HL hxo hxl
  have RX15 : Hid (∀ V, Below W15.heap.size W15 V → V.heap[X15]? = some (.cells #[.int .u64 gu, .int .u32 eu, .int .u64 lu, .int .u64 vu, xo15, xl15] 26 (0, 0))) := Lib.hid (fun V h => (h.block _ (lt_of_row m15)).trans m15)
  have SO15 : Hid (Sl W15 xo15 ou) := Lib.hid HO15
  have SN15 : Hid (Sl W15 xl15 nu) := Lib.hid HL15
  clear m15 HO15 HL15
  clear q13
  have q15 := Below.refl W15.heap.size W15
  refine (B2.out _).mono ?_; rintro e w18 ⟨⟨xo18, xl18, rfl, ho, hl⟩, hb⟩
  obtain ⟨qa, qp, rfl⟩ := ho.form
  obtain ⟨qb, qq, rfl⟩ := hl.form
  obtain ⟨na, hna⟩ : ∃ m, m = (ou : List Int).length := ⟨_, rfl⟩
  obtain ⟨nb, hnb⟩ : ∃ m, m = (nu : List Int).length := ⟨_, rfl⟩
  replace ho : Sl w18 (.slice qa na qp) ou := by rw [hna]; exact ho
  replace hl : Sl w18 (.slice qb nb qq) nu := by rw [hnb]; exact hl
  have hbb := below_step q15 hb
  clear hb
  have HO := Lib.hid ho
  have HL := Lib.hid hl
  clear ho hl
  simp only [← hna, ← hnb]
  clear hna hnb
  go_wp2_with fail
  obtain ⟨X18, hX⟩ : ∃ x, x = w18.heap.size := ⟨_, rfl⟩
  have m18 := heap_alloc_new w18 (.cells #[.int .u64 gu, .int .u32 eu, .int .u64 lu, .int .u64 vu, .slice qa na qp, .slice qb nb qq] 32)
  have mb := (Below.refl w18.heap.size w18).alloc (Nat.le_refl _) (.cells #[.int .u64 gu, .int .u32 eu, .int .u64 lu, .int .u64 vu, .slice qa na qp, .slice qb nb qq] 32)
  obtain ⟨W18, hW⟩ : ∃ x, x = w18.alloc (.cells #[.int .u64 gu, .int .u32 eu, .int .u64 lu, .int .u64 vu, .slice qa na qp, .slice qb nb qq] 32) := ⟨_, rfl⟩
  simp only [← hX, ← hW] at m18 mb ⊢
  rw [hX] at mb
  have hb18 := below_step hbb mb
  have HO18 := HO.out.below mb (Nat.le_refl _)
  have HL18 := HL.out.below mb (Nat.le_refl _)
  obtain ⟨xo18, hxo⟩ : ∃ v, v = Value.slice qa na qp := ⟨_, rfl⟩
  obtain ⟨xl18, hxl⟩ : ∃ v, v = Value.slice qb nb qq := ⟨_, rfl⟩
  simp only [← hxo, ← hxl] at HO18 HL18 m18 ⊢
  clear hX hW mb hbb HO HL hxo hxl
  have RX18 : Hid (∀ V, Below W18.heap.size W18 V → V.heap[X18]? = some (.cells #[.int .u64 gu, .int .u32 eu, .int .u64 lu, .int .u64 vu, xo18, xl18] 32 (0, 0))) := Lib.hid (fun V h => (h.block _ (lt_of_row m18)).trans m18)
  have SO18 : Hid (Sl W18 xo18 ou) := Lib.hid HO18
  have SN18 : Hid (Sl W18 xl18 nu) := Lib.hid HL18
  clear m18 HO18 HL18
  clear q15
  have f18 := Below.refl W18.heap.size W18
  have f13 := below_step hb15 hb18
  have f11 := below_step hb13 f13
  have fW := below_step hb11 f11
  obtain ⟨c0, c1, c2, c3, c4, c5⟩ := cells6 (RXa.out _ fW)
  have C0r := cell_regrown c0
  have C1r := cell_regrown c1
  have C2r := cell_regrown c2
  have C3r := cell_regrown c3
  have C4r := cell_regrown c4
  have C5r := cell_regrown c5
  clear c0 c1 c2 c3 c4 c5
  obtain ⟨x0, x1, x2, x3, x4, x5⟩ := cells6 (RX11.out _ f11)
  have X0r := cell_regrown x0
  have X1r := cell_regrown x1
  have X2r := cell_regrown x2
  have X3r := cell_regrown x3
  have X4r := cell_regrown x4
  have X5r := cell_regrown x5
  clear x0 x1 x2 x3 x4 x5
  obtain ⟨y0, y1, y2, y3, y4, y5⟩ := cells6 (RX13.out _ f13)
  have Y0r := cell_regrown y0
  have Y1r := cell_regrown y1
  have Y2r := cell_regrown y2
  have Y3r := cell_regrown y3
  have Y4r := cell_regrown y4
  have Y5r := cell_regrown y5
  clear y0 y1 y2 y3 y4 y5
  obtain ⟨u0, u1, u2, u3, u4, u5⟩ := cells6 (RX15.out _ hb18)
  have U0r := cell_regrown u0
  have U1r := cell_regrown u1
  have U2r := cell_regrown u2
  have U3r := cell_regrown u3
  have U4r := cell_regrown u4
  have U5r := cell_regrown u5
  clear u0 u1 u2 u3 u4 u5
  obtain ⟨v0, v1, v2, v3, v4, v5⟩ := cells6 (RX18.out _ f18)
  have V0r := cell_regrown v0
  have V1r := cell_regrown v1
  have V2r := cell_regrown v2
  have V3r := cell_regrown v3
  have V4r := cell_regrown v4
  have V5r := cell_regrown v5
  clear v0 v1 v2 v3 v4 v5
  have s1 := Lib.hid (SOa.out.below fW (Nat.le_refl _)).regrown
  have t1 := Lib.hid (SNa.out.below fW (Nat.le_refl _)).regrown
  have s2 := Lib.hid (SO11.out.below f11 (Nat.le_refl _)).regrown
  have t2 := Lib.hid (SN11.out.below f11 (Nat.le_refl _)).regrown
  have s3 := Lib.hid (SO13.out.below f13 (Nat.le_refl _)).regrown
  have t3 := Lib.hid (SN13.out.below f13 (Nat.le_refl _)).regrown
  have s4 := Lib.hid (SO15.out.below hb18 (Nat.le_refl _)).regrown
  have t4 := Lib.hid (SN15.out.below hb18 (Nat.le_refl _)).regrown
  have s5 := Lib.hid (SO18.out.below f18 (Nat.le_refl _)).regrown
  have t5 := Lib.hid (SN18.out.below f18 (Nat.le_refl _)).regrown
  have TT := Lib.hid (below_step PB.out fW)
  have q1 : (ra == ra) = true := by simp
  have q2 : (xa == xa) = true := by simp
  have q3 : (xe == xe) = true := by simp
  have q4 : (xi == xi) = true := by simp
  have q5 : (xb == xb) = true := by simp
  have q6 : (za.toList == za.toList) = true := by simp
  clear f18 f13 f11 fW hb11 hb13 hb15 hb18
  go_wp2_with fail
  refine Loose.wp_region_quiet_fast (by kernel_rfl) (by kernel_rfl) ?_
  (try simp only [List.append_eq, List.cons_append, List.nil_append])
  repeat (go_big_quiet_step (fail))
  go_big_quiet_step ((go_at_call 17; exact Calls.regrown_of (Right_val (Ck.mk ga' epa' la' va' oda' lna') uoa ula _ KCa.out (s1.out _ _) (t1.out _ _) ra Hra)))
  repeat (go_big_quiet_step (fail))
  go_big_quiet_step ((go_at_call 12; exact Calls.regrown_of (Ref_val (Ck.mk ga' epa' la' va' oda' lna') uoa ula _ (s1.out _ _) (t1.out _ _))))
  repeat (go_big_quiet_step (fail))
  go_big_quiet_step ((go_at_call 18; exact Calls.regrown_of (rRight_val (Ck.mk ga' epa' la' va' oda' lna') uoa ula _ KCa.out (s1.out _ _) (t1.out _ _) ra Hra)))
  repeat (go_big_quiet_step (fail))
  go_big_quiet_step ((go_at_call 12; exact Calls.regrown_of (Ref_val (Ck.mk gy ey ly vy oy ny) xo11 xl11 _ (s2.out _ _) (t2.out _ _))))
  repeat (go_big_quiet_step (fail))
  go_big_quiet_step ((go_at_call 19; exact Calls.regrown_of (Same_any (Ck.mk gy ey ly vy oy ny) (Ck.mk gy ey ly vy oy ny) xo11 xl11 xo13 xl13 _ KY.out (s2.out _ _) (t2.out _ _) (s3.out _ _) (t3.out _ _) true (Lib.hid (sameB_refl _).symm))))
  repeat (go_big_quiet_step (fail))
  go_big_quiet_step ((go_at_call 12; exact Calls.regrown_of (Ref_val (Ck.mk gu eu lu vu ou nu) xo15 xl15 _ (s4.out _ _) (t4.out _ _))))
  repeat (go_big_quiet_step (fail))
  go_big_quiet_step ((go_at_call 19; exact Calls.regrown_of (Same_any (Ck.mk gu eu lu vu ou nu) (Ck.mk gu eu lu vu ou nu) xo15 xl15 xo18 xl18 _ KU.out (s4.out _ _) (t4.out _ _) (s5.out _ _) (t5.out _ _) true (Lib.hid (sameB_refl _).symm))))
  repeat (go_big_quiet_step (fail))
  go_big_quiet_step ((go_at_call 20; exact Calls.regrown_of (fixed_val _)))
  repeat (go_big_quiet_step (fail))
  refine wpQuiet_nil ?_
  intro _ hw'
  obtain ⟨⟨dq, osq⟩, hw''⟩ := hw'
  subst hw''
  go_wp2_with fail
  go_ret
  exact ⟨rfl, below_step TT.out (below_regrown _ dq osq)⟩

theorem CkptTells_walk (v0 : Value) (a1 a2 : ByteArray) (w : World) (o0 : Row.Opn Try.prog w 26 v0) (w1 : a1.size ≤ 140737488351232) (w2 : a2.size ≤ 140737488351232) :
    Calls Try.prog 3 #[v0, .string a1, .string a2] w fun e w' => e = .returned (.bool true) ∧ Below w.heap.size w w' := by
  obtain ⟨ca, voa, vla, rfl, hka, hoa, hla⟩ := open_check o0
  exact tells_main ca voa vla a1 a2 w hka hoa hla w1 w2
end Go.Proofs.Ytieijelbflkpeaa.L
