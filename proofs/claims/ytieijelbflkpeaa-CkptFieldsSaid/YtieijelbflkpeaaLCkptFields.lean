/- CkptFields: whatever the checkpoint, the law answers true. No condition. -/
import Derived.Test.YtieijelbflkpeaaGCkY
import Derived.Test.YtieijelbflkpeaaGFast
namespace Go.Proofs.Ytieijelbflkpeaa.L
open Go.RowKit Go.Proofs.Ytieijelbflkpeaa.G Go.Proofs.Ytieijelbflkpeaa.Loose Go.Proofs.Ytieijelbflkpeaa.CrcPlain Go.Proofs.Ytieijelbflkpeaa.WordPlain
set_option linter.unusedVariables false
set_option linter.unusedSimpArgs false

theorem fields_out (c : Ck) (hk : c.Kind) (h : c.Right) (z : ByteArray) (hz : z = c.out) : wget (z.extract 0 8) = c.gen ∧ wget (z.extract 120 128) = c.gen ∧ wget (z.extract 8 12) = c.ep ∧ wget (z.extract 12 20) = c.lsn ∧ wget (z.extract 20 28) = c.ver := by
  rw [hz, out_right c h]
  obtain ⟨f1, f2, f3, f4⟩ := enc_fields c hk
  refine ⟨(wget_take _).trans f1, ?_, f2, f3, f4⟩
  have e : (((⟨c.enc.toArray⟩ : ByteArray).extract 120 128).data.toList).take 8 = wl c.gen 8 := by
    rw [extract_list, enc_gen2 c h.2.2.2.2.1 h.2.2.2.1, List.take_take, List.take_of_length_le (by rw [wl_length]; omega)]
  rw [wget_list _ _ e, wgl_wl_lt _ _ hk.gen]

set_option maxRecDepth 100000 in
set_option maxHeartbeats 1500000 in
theorem fields_main (ca : Ck) (voa vla : Value) (w : World) (hka : ca.Kind) (hoa : Sl w voa ca.order) (hla : Sl w vla ca.lens) :
    Calls Try.prog 7 #[ca.val voa vla] w fun e w' => e = .returned (.bool true) ∧ Below w.heap.size w w' := by
  obtain ⟨uoa, ula, sua, sla, cuta⟩ := Cut_val ca voa vla w hoa hla
  have kca := hka.cut
  obtain ⟨da, hd⟩ : ∃ c, c = ca.cut := ⟨_, rfl⟩
  rw [← hd] at sua sla cuta kca
  clear hd
  obtain ⟨oaa, capa, rfl⟩ := hoa.form
  obtain ⟨oba, cbpa, rfl⟩ := hla.form
  obtain ⟨paa, dapa, rfl⟩ := sua.form
  obtain ⟨pba, dbpa, rfl⟩ := sla.form
  clear hoa hla hka
  obtain ⟨ga, epa, la, va, oda, lna⟩ := ca
  obtain ⟨ga', epa', la', va', oda', lna'⟩ := da
  simp only [Ck.val] at cuta sua sla ⊢
  obtain ⟨ma, hm⟩ : ∃ m, m = oda.length := ⟨_, rfl⟩
  simp only [← hm] at cuta ⊢
  clear hm
  obtain ⟨na, hm⟩ : ∃ m, m = lna.length := ⟨_, rfl⟩
  simp only [← hm] at cuta ⊢
  clear hm
  obtain ⟨ra, hra⟩ : ∃ m, m = oda'.length := ⟨_, rfl⟩
  simp only [← hra] at cuta sua ⊢
  obtain ⟨sa, hsa⟩ : ∃ m, m = lna'.length := ⟨_, rfl⟩
  simp only [← hsa] at cuta sla ⊢
  have HRa := Lib.hid hra
  have HSa := Lib.hid hsa
  have SUa := Lib.hid sua
  have SLa := Lib.hid sla
  have CUTa := Lib.hid cuta
  have KCa := Lib.hid kca
  clear hra hsa sua sla cuta kca
  go_enter Try.func7, Try.ntmps7
  obtain ⟨W0, hW0⟩ : ∃ x, x = (w.alloc (.cells #[.int .u64 ga, .int .u32 epa, .int .u64 la, .int .u64 va, .slice oaa ma capa, .slice oba na cbpa] 26)) := ⟨_, rfl⟩
  have xa0 := heap_alloc_new w (.cells #[.int .u64 ga, .int .u32 epa, .int .u64 la, .int .u64 va, .slice oaa ma capa, .slice oba na cbpa] 26)
  have pb0 := (Below.refl w.heap.size w).alloc (Nat.le_refl _) (.cells #[.int .u64 ga, .int .u32 epa, .int .u64 la, .int .u64 va, .slice oaa ma capa, .slice oba na cbpa] 26)
  rw [← hW0] at xa0 pb0
  have Xa0 := Lib.hid xa0
  have PB0 := Lib.hid pb0
  have HW0 := Lib.hid hW0
  clear pb0 hW0 xa0
  go_wp2_with fail
  rw [← HW0.out]
  refine (CUTa.out _).mono ?_; rintro e w1 ⟨rfl, hb⟩
  have ya := (hb.block _ (lt_of_row Xa0.out)).trans Xa0.out
  have pb := below_step PB0.out hb
  clear hb
  have OLD := Lib.hid ya
  have ONE : Hid ((#[.int .u64 ga', .int .u32 epa', .int .u64 la', .int .u64 va', .slice paa ra dapa, .slice pba sa dbpa] : Array Value).all (·.oneCell') = true) := Lib.hid (by simp [Value.oneCell'])
  obtain ⟨W1, hW⟩ : ∃ z, z = w1.setRow w.heap.size #[.int .u64 ga', .int .u32 epa', .int .u64 la', .int .u64 va', .slice paa ra dapa, .slice pba sa dbpa] := ⟨_, rfl⟩
  have pb' := pb.setRow (show w.heap.size ≤ w.heap.size by omega) #[.int .u64 ga', .int .u32 epa', .int .u64 la', .int .u64 va', .slice paa ra dapa, .slice pba sa dbpa]
  rw [← hW] at pb'
  have Xa1 := Lib.hid (setRow_heap w1 w.heap.size _ #[.int .u64 ga', .int .u32 epa', .int .u64 la', .int .u64 va', .slice paa ra dapa, .slice pba sa dbpa] _ _ ya)
  simp only [← hW] at Xa1
  have PB1 := Lib.hid pb'
  have HW := Lib.hid hW
  clear pb pb' hW ya
  obtain ⟨z0, z1, z2, z3, z4, z5⟩ := cells6 Xa1.out
  rw [HW.out] at z0 z1 z2 z3 z4 z5
  go_wp2_with (refine wpList_store_row rfl 26 _ _ rfl w.heap.size #[.int .u64 ga', .int .u32 epa', .int .u64 la', .int .u64 va', .slice paa ra dapa, .slice pba sa dbpa] rfl rfl _ _ OLD.out (by kernel_rfl) rfl ONE.out ?_)
  rw [← HW.out]
  clear z0 z1 z2 z3 z4 z5 OLD ONE HW
  obtain ⟨W, hW⟩ : ∃ z, z = W1 := ⟨_, rfl⟩
  rw [← hW] at PB1 Xa1 ⊢
  clear hW
  have PB := PB1
  obtain ⟨Aa, hAa⟩ : ∃ z, z = w.heap.size := ⟨_, rfl⟩
  simp only [← hAa] at Xa1 ⊢
  clear hAa
  have su := SUa.out.below PB.out (Nat.le_refl _)
  have sl := SLa.out.below PB.out (Nat.le_refl _)
  obtain ⟨uoa, ho⟩ : ∃ z, z = Value.slice paa ra dapa := ⟨_, rfl⟩
  obtain ⟨ula, hl⟩ : ∃ z, z = Value.slice pba sa dbpa := ⟨_, rfl⟩
  have xr := Xa1.out
  simp only [← ho, ← hl] at su sl xr ⊢
  clear ho hl
  have SOa := Lib.hid su
  have SNa := Lib.hid sl
  have RXa : Hid (∀ V, Below W.heap.size W V → V.heap[Aa]? = some (.cells #[.int .u64 ga', .int .u32 epa', .int .u64 la', .int .u64 va', uoa, ula] 26 (0, 0))) := Lib.hid (fun V h => (h.block _ (lt_of_row xr)).trans xr)
  clear su sl xr
  clear SUa SLa CUTa Xa0 Xa1 PB0 PB1 HW0
  by_cases hAa : (Ck.mk ga' epa' la' va' oda' lna').Right
  · have HAa := Lib.hid hAa
    clear hAa
    obtain ⟨za, hz⟩ : ∃ z, z = (Ck.mk ga' epa' la' va' oda' lna').out := ⟨_, rfl⟩
    have Hza := Lib.hid hz
    have hsz : za.size = 128 := by rw [hz]; exact out_size _ HAa.out
    obtain ⟨q1, q2, q3, q4, q5⟩ := fields_out (Ck.mk ga' epa' la' va' oda' lna') KCa.out HAa.out za hz
    simp only [] at q1 q2 q3 q4 q5
    have es : ∀ a b : Nat, (za.extract a b).size ≤ 9223372036854775807 := by intro a b; rw [ByteArray.size_extract]; omega
    have F1 := Lib.hid (fun W => grows (rGet_val (za.extract 0 8) W ga' (es _ _) (Lib.hid q1.symm)))
    have F2 := Lib.hid (fun W => grows (rGet_val (za.extract 120 za.size) W ga' (es _ _) (Lib.hid (by rw [hsz]; exact q2.symm))))
    have F3 := Lib.hid (fun W => grows (rGet_val (za.extract 8 12) W epa' (es _ _) (Lib.hid q3.symm)))
    have F4 := Lib.hid (fun W => grows (rGet_val (za.extract 12 20) W la' (es _ _) (Lib.hid q4.symm)))
    have F5 := Lib.hid (fun W => grows (rGet_val (za.extract 20 28) W va' (es _ _) (Lib.hid q5.symm)))
    have hen := fun i h => enc_pair (Ck.mk ga' epa' la' va' oda' lna') HAa.out i h
    have hmn := enc_many (Ck.mk ga' epa' la' va' oda' lna') HAa.out.2.2.2.1
    rw [← out_right _ HAa.out, ← hz] at hmn
    simp only [← out_right _ HAa.out, ← hz] at hen
    have HEN := Lib.hid hen
    clear hz q1 q2 q3 q4 q5 es hen
    obtain ⟨n, hn⟩ : ∃ n, n = oda'.length := ⟨_, rfl⟩
    have hn16 : n ≤ 16 := by rw [hn]; exact HAa.out.2.2.2.1
    have hnl : lna'.length = n := by rw [hn]; exact HAa.out.2.2.2.2.1
    simp only [← hn] at hmn
    have ix28 : ∀ W : World, (Instr.index 9 (.string za) (.int .i64 28)).run Try.prog W = .ok (.int .u8 (n : Int)) W := fun W => index_byte za 28 n (by omega) hmn.symm W
    have hbE := Below.refl W.heap.size W
    refine (Encode_val (Ck.mk ga' epa' la' va' oda' lna') uoa ula W KCa.out (SOa.out.below hbE (Nat.le_refl _)) (SNa.out.below hbE (Nat.le_refl _)) za 0 Hza (Lib.hid (if_pos HAa.out).symm)).mono ?_; rintro e w3 ⟨rfl, hb3⟩
    clear hbE
    have so := SOa.out
    have sl := SNa.out
    unfold Sl at so sl
    rcases so with ⟨h0, _⟩ | ⟨_, b, off, cap, huo, _, hc1⟩
    · exact absurd h0 HAa.out.2.2.1
    rcases sl with ⟨h0, _⟩ | ⟨_, b', off', cap', hul, _, hc2⟩
    · exfalso
      have h1 : lna'.length = 0 := by rw [h0]; rfl
      exact HAa.out.2.2.1 (List.length_eq_zero_iff.1 (by simp only []; omega))
    rw [← hn] at huo
    rw [hnl] at hul
    have HC1 := Lib.hid hc1
    have HC2 := Lib.hid hc2
    have HN := Lib.hid hn
    have HNL := Lib.hid hnl
    have HMN := Lib.hid hmn
    have HSZ := Lib.hid hsz
    have hq : ((za.size : Int) != 128) = false := by rw [bne, beq_iff_eq.2 (show (za.size : Int) = 128 by omega)]; rfl
    have wn : wrap64 (n : Int) = (n : Int) := IntWalk.wrap64_in _ (by omega)
    have we : IntKind.u64.wrap (epa' : Int) = (epa' : Int) := IntWalk.u64_in _ (by have := KCa.out.ep; simp only [] at this; omega)
    have wni : IntKind.i64.wrap (n : Int) = (n : Int) := IntWalk.i64_in _ (by omega)
    subst huo hul
    have sz1 : ¬ (za.size : Int) < 8 := by omega
    have sz2 : ¬ (za.size : Int) < 12 := by omega
    have sz3 : ¬ (za.size : Int) < 20 := by omega
    have sz4 : ¬ (za.size : Int) < 28 := by omega
    have sz5 : ¬ (za.size : Int) < 120 := by omega
    clear hc1 hc2 hn hnl hmn hsz
    go_wp2_with fail
    go_loopw [5] (fun i wr => ∃ k : Nat, k ≤ n ∧ i = .int .i64 k ∧ Below W.heap.size W wr) (fun i _ => n - (intOf i).toNat)
    case atStart => exact ⟨0, by omega, rfl, hb3⟩
    case round =>
      obtain ⟨k, hk, rfl, hbl⟩ := hrel
      clear hb3
      obtain ⟨c0, c1, c2, c3, c4, c5⟩ := cells6 (RXa.out _ hbl)
      by_cases hlt : k < n
      · have hkn : (k : Int) < (n : Int) := by omega
        have hk16 : (k : Int) < 16 := by omega
        have h1 : k < oda'.length := by have := HN.out; omega
        have h2 : k < lna'.length := by have := HNL.out; omega
        obtain ⟨x, hx⟩ : ∃ x, x = oda'[k] := ⟨_, rfl⟩
        obtain ⟨y, hy⟩ : ∃ y, y = lna'[k] := ⟨_, rfl⟩
        obtain ⟨p1, p2⟩ := HEN.out k h1
        simp only [← hx, ← hy] at p1 p2
        have hxr := HAa.out.2.2.2.2.2.1 x (by rw [hx]; exact List.getElem_mem _)
        have hyr := HAa.out.2.2.2.2.2.2.1 y (by rw [hy]; exact List.getElem_mem _)
        have i1 : ∀ W : World, (Instr.index 9 (.string za) (.int .i64 (29 + 2 * (k : Int)))).run Try.prog W = .ok (.int .u8 x) W := fun W => index_byte za (29 + 2 * k) x (by have := HSZ.out; omega) p1.symm W
        have i2 : ∀ W : World, (Instr.index 9 (.string za) (.int .i64 (30 + 2 * (k : Int)))).run Try.prog W = .ok (.int .u8 y) W := fun W => index_byte za (30 + 2 * k) y (by have := HSZ.out; omega) (by rw [show 30 + 2 * k = 29 + 2 * k + 1 from by omega]; exact p2.symm) W
        have a1i : IntKind.i64.wrap (2 * (k : Int)) = 2 * (k : Int) := IntWalk.i64_in _ (by omega)
        have a1 : wrap64 (2 * (k : Int)) = 2 * (k : Int) := IntWalk.wrap64_in _ (by omega)
        have a2i : IntKind.i64.wrap (29 + 2 * (k : Int)) = 29 + 2 * (k : Int) := IntWalk.i64_in _ (by omega)
        have a2 : wrap64 (29 + 2 * (k : Int)) = 29 + 2 * (k : Int) := IntWalk.wrap64_in _ (by omega)
        have a3i : IntKind.i64.wrap (30 + 2 * (k : Int)) = 30 + 2 * (k : Int) := IntWalk.i64_in _ (by omega)
        have a3 : wrap64 (30 + 2 * (k : Int)) = 30 + 2 * (k : Int) := IntWalk.wrap64_in _ (by omega)
        have a4i : IntKind.i64.wrap x = x := IntWalk.i64_in _ (by omega)
        have a4 : wrap64 x = x := IntWalk.wrap64_in _ (by omega)
        have a5i : IntKind.i64.wrap y = y := IntWalk.i64_in _ (by omega)
        have a5 : wrap64 y = y := IntWalk.wrap64_in _ (by omega)
        have r1 := hbl.cell (p := ⟨b, off + k, none⟩) (block_lt_of_cell (HC1.out k h1))
        have r2 := hbl.cell (p := ⟨b', off' + k, none⟩) (block_lt_of_cell (HC2.out k h2))
        rw [HC1.out k h1, ← hx] at r1
        rw [HC2.out k h2, ← hy] at r2
        have R1 := cell_regrown r1
        have R2 := cell_regrown r2
        have C4 := cell_regrown c4
        have C5 := cell_regrown c5
        have q1 : (x != x) = false := by simp
        have q2 : (y != y) = false := by simp
        clear hx hy p1 p2 hxr hyr r1 r2 c0 c1 c2 c3
        go_wp2_with fail
        refine Loose.wp_region_quiet_fast (by kernel_rfl) (by kernel_rfl) ?_
        (try simp only [List.append_eq, List.cons_append, List.nil_append])
        repeat (go_big_quiet_step (fail))
        refine wpQuiet_nil ?_
        intro _ hw'
        obtain ⟨⟨dq, osq⟩, hw''⟩ := hw'
        subst hw''
        go_wp2_with fail
        go_roundw
        case rel => exact ⟨k + 1, by omega, by go_num, below_step hbl (below_regrown _ dq osq)⟩
        case measure => simp [intOf]; omega
      · obtain rfl : k = n := by omega
        have C0 := cell_regrown c0
        have C1 := cell_regrown c1
        have C2 := cell_regrown c2
        have C3 := cell_regrown c3
        have C4 := cell_regrown c4
        go_wp2_with fail
        refine Loose.wp_region_quiet_fast (by kernel_rfl) (by kernel_rfl) ?_
        (try simp only [List.append_eq, List.cons_append, List.nil_append])
        repeat (go_big_quiet_step (fail))
        go_big_quiet_step ((go_at_call 22; exact Calls.regrown_of (F1.out _)))
        repeat (go_big_quiet_step (fail))
        go_big_quiet_step ((go_at_call 22; exact Calls.regrown_of (F2.out _)))
        repeat (go_big_quiet_step (fail))
        go_big_quiet_step ((go_at_call 22; exact Calls.regrown_of (F3.out _)))
        repeat (go_big_quiet_step (fail))
        go_big_quiet_step ((go_at_call 22; exact Calls.regrown_of (F4.out _)))
        repeat (go_big_quiet_step (fail))
        go_big_quiet_step ((go_at_call 22; exact Calls.regrown_of (F5.out _)))
        repeat (go_big_quiet_step (fail))
        go_big_quiet_step ((go_at_call 20; exact Calls.regrown_of (fixed_val _)))
        repeat (go_big_quiet_step (fail))
        refine wpQuiet_nil ?_
        intro _ hw'
        obtain ⟨⟨dq, osq⟩, hw''⟩ := hw'
        subst hw''
        go_wp2_with fail
        go_ret
        exact ⟨rfl, below_step PB.out (below_step hbl (below_regrown _ dq osq))⟩
  · have HAa := Lib.hid hAa
    clear hAa
    have hbE := Below.refl W.heap.size W
    refine (Encode_val (Ck.mk ga' epa' la' va' oda' lna') uoa ula W KCa.out (SOa.out.below hbE (Nat.le_refl _)) (SNa.out.below hbE (Nat.le_refl _)) ⟨#[]⟩ 5 (Lib.hid (if_neg HAa.out).symm) (Lib.hid (if_neg HAa.out).symm)).mono ?_; rintro e w3 ⟨rfl, hb3⟩
    go_wp2_with fail
    refine (fixed_val _).mono ?_; rintro e w4 ⟨rfl, hb4⟩
    go_wp2_with fail
    go_ret
    exact ⟨rfl, below_step PB.out (below_step hb3 hb4)⟩
theorem CkptFields_walk (v0 : Value) (w : World) (o0 : Row.Opn Try.prog w 26 v0) :
    Calls Try.prog 7 #[v0] w fun e w' => e = .returned (.bool true) ∧ Below w.heap.size w w' := by
  obtain ⟨ca, voa, vla, rfl, hka, hoa, hla⟩ := open_check o0
  exact fields_main ca voa vla w hka hoa hla
end Go.Proofs.Ytieijelbflkpeaa.L
