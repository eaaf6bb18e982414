/- Records for the document; lists of at most so many; replay.Sessions. -/
import Derived.Test.YtlnhdbbhlcpkbaaRn
import Derived.Test.YtlnhdbbhlcpkbaaRr
namespace Go.Proofs.Ytlnhdbbhlcpkbaa.G
open Go.RowKit Go.Maps Go.Proofs.Ytlnhdbbhlcpkbaa.WordPlain Go.Proofs.Ytlnhdbbhlcpkbaa.Loose
set_option linter.unusedVariables false
set_option linter.unusedSimpArgs false

theorem run_min2R {P : Program} (ats : Array TypeId) (ty : TypeId) (a b : Int) (W : World) : (Builtin.min_ ats ty #[.int .i64 a, .int .i64 b]).run P W = .ok (.int .i64 (min a b)) W := by
  have h : ∀ x y : Int, (if y < x then y else x) = min x y := by intro x y; split <;> omega
  simp [Builtin.min_, Builtin.min2, List.foldlM_cons, List.foldlM_nil, h]
theorem two_newR (w : World) (o o' : Obj) : ((w.alloc o).alloc o').heap[w.heap.size]? = some o ∧ ((w.alloc o).alloc o').heap[w.heap.size + 1]? = some o' := by
  have s := alloc_sizeR w o
  have h1 := heap_alloc_new w o
  have h2 := heap_alloc_new (w.alloc o) o'
  rw [s] at h2
  refine ⟨?_, h2⟩
  have hb : Below (w.alloc o).heap.size (w.alloc o) ((w.alloc o).alloc o') := (Below.refl _ _).alloc (Nat.le_refl _) _
  rw [hb.block _ (by omega)]
  exact h1
def Rec.cut (r : Rec) : Rec := { r with id := r.id.extract 0 (min r.id.size 80), va := r.va.extract 0 (min r.va.size 80) }
theorem Rec.Kind.cut {r : Rec} (h : r.Kind) : r.cut.Kind :=
  ⟨h.lsn, h.ep, h.kind, h.ver, h.dl, by show (r.id.extract 0 _).size ≤ _; rw [ByteArray.size_extract]; omega, by show (r.va.extract 0 _).size ≤ _; rw [ByteArray.size_extract]; omega⟩
set_option maxRecDepth 100000 in
theorem CutR_form (r : Rec) (ki kv : Nat) (w : World) (hki : ki = min r.id.size 80) (hkv : kv = min r.va.size 80) :
    Calls Try.prog 21 #[.agg #[.int .u64 (r.lsn : Int), .int .u32 (r.ep : Int), .int .i64 r.kind, .int .u64 (r.ver : Int), .int .u64 (r.dl : Int), .string r.id, .string r.va]] w fun e w' => e = .returned (.agg #[.int .u64 (r.lsn : Int), .int .u32 (r.ep : Int), .int .i64 r.kind, .int .u64 (r.ver : Int), .int .u64 (r.dl : Int), .string (r.id.extract 0 ki), .string (r.va.extract 0 kv)]) ∧ Below w.heap.size w w' := by
  obtain ⟨l, ep, k, ve, d, i, v⟩ := r
  simp only at hki hkv ⊢
  have s1 : ∀ W : World, (Instr.slice 9 (.string i) none (some (.int .i64 (ki : Int))) none).run Try.prog W = .ok (.string (i.extract 0 ki)) W := by
    intro W
    rw [run_slice_string_h W _ _ Try.underlying9 .i64 (ki : Int) (by omega) (by omega), Int.toNat_natCast]
  have s2 : ∀ W : World, (Instr.slice 9 (.string v) none (some (.int .i64 (kv : Int))) none).run Try.prog W = .ok (.string (v.extract 0 kv)) W := by
    intro W
    rw [run_slice_string_h W _ _ Try.underlying9 .i64 (kv : Int) (by omega) (by omega), Int.toNat_natCast]
  have m1 : ∀ W, (Builtin.min_ #[3, 3] 3 #[.int .i64 (i.size : Int), .int .i64 80]).run Try.prog W = .ok (.int .i64 (ki : Int)) W := by
    intro W
    rw [run_min2R, show min (i.size : Int) 80 = (ki : Int) from by omega]
  have m2 : ∀ W, (Builtin.min_ #[3, 3] 3 #[.int .i64 (v.size : Int), .int .i64 80]).run Try.prog W = .ok (.int .i64 (kv : Int)) W := by
    intro W
    rw [run_min2R, show min (v.size : Int) 80 = (kv : Int) from by omega]
  have hi' : ¬ (i.size : Int) < (ki : Int) := by omega
  have hv' : ¬ (v.size : Int) < (kv : Int) := by omega
  obtain ⟨x, hx⟩ : ∃ x, x = (i.extract 0 ki) := ⟨_, rfl⟩
  obtain ⟨y, hy⟩ : ∃ y, y = (v.extract 0 kv) := ⟨_, rfl⟩
  rw [← hx] at s1 ⊢
  rw [← hy] at s2 ⊢
  clear hki hkv hx hy
  go_enter Try.func21, Try.ntmps21
  go_wp2_with fail
  have h := (two_newR w (.cells #[.int .u64 (l : Int), .int .u32 (ep : Int), .int .i64 k, .int .u64 (ve : Int), .int .u64 (d : Int), .string x, .string y] 42) (.cells #[.int .u64 (l : Int), .int .u32 (ep : Int), .int .i64 k, .int .u64 (ve : Int), .int .u64 (d : Int), .string x, .string y] 42)).2
  have hs := alloc_sizeR w (.cells #[.int .u64 (l : Int), .int .u32 (ep : Int), .int .i64 k, .int .u64 (ve : Int), .int .u64 (d : Int), .string x, .string y] 42)
  refine bodyPost_ret (v := .agg #[.int .u64 (l : Int), .int .u32 (ep : Int), .int .i64 k, .int .u64 (ve : Int), .int .u64 (d : Int), .string x, .string y]) ?_ rfl ⟨rfl, ?_⟩
  · exact results_cell_row (p := 2) (ty := 42) rfl _ _ (w.heap.size + 1) 42 _ (0, 0) _ rfl h Try.underlying42 rfl (by kernel_rfl)
  · exact ((Below.refl _ _).alloc (Nat.le_refl _) _).alloc (by rw [hs]; omega) _
theorem CutR_val (r : Rec) (w : World) : Calls Try.prog 21 #[.agg #[.int .u64 (r.lsn : Int), .int .u32 (r.ep : Int), .int .i64 r.kind, .int .u64 (r.ver : Int), .int .u64 (r.dl : Int), .string r.id, .string r.va]] w fun e w' => e = .returned (.agg #[.int .u64 (r.cut.lsn : Int), .int .u32 (r.cut.ep : Int), .int .i64 r.cut.kind, .int .u64 (r.cut.ver : Int), .int .u64 (r.cut.dl : Int), .string r.cut.id, .string r.cut.va]) ∧ Below w.heap.size w w' := CutR_form r _ _ w rfl rfl
set_option maxRecDepth 100000 in
theorem RefR_val (r : Rec) (w : World) : Calls Try.prog 22 #[.agg #[.int .u64 (r.lsn : Int), .int .u32 (r.ep : Int), .int .i64 r.kind, .int .u64 (r.ver : Int), .int .u64 (r.dl : Int), .string r.id, .string r.va]] w fun e w' => e = .returned (.agg #[.int .u64 (r.lsn : Int), .int .u32 (r.ep : Int), .int .i64 r.kind, .int .u64 (r.ver : Int), .int .u64 (r.dl : Int), .string r.id, .string r.va]) ∧ Below w.heap.size w w' := by
  obtain ⟨l, ep, k, ve, d, i, v⟩ := r
  simp only
  have n0 := (two_newR w (.cells #[.int .u64 (l : Int), .int .u32 (ep : Int), .int .i64 k, .int .u64 (ve : Int), .int .u64 (d : Int), .string i, .string v] 42) (.cells #[.int .u64 (l : Int), .int .u32 (ep : Int), .int .i64 k, .int .u64 (ve : Int), .int .u64 (d : Int), .string i, .string v] 50)).1
  go_enter Try.func22, Try.ntmps22
  go_wp2_with fail
  have h := (two_newR w (.cells #[.int .u64 (l : Int), .int .u32 (ep : Int), .int .i64 k, .int .u64 (ve : Int), .int .u64 (d : Int), .string i, .string v] 42) (.cells #[.int .u64 (l : Int), .int .u32 (ep : Int), .int .i64 k, .int .u64 (ve : Int), .int .u64 (d : Int), .string i, .string v] 50)).2
  have hs := alloc_sizeR w (.cells #[.int .u64 (l : Int), .int .u32 (ep : Int), .int .i64 k, .int .u64 (ve : Int), .int .u64 (d : Int), .string i, .string v] 42)
  refine bodyPost_ret (v := .agg #[.int .u64 (l : Int), .int .u32 (ep : Int), .int .i64 k, .int .u64 (ve : Int), .int .u64 (d : Int), .string i, .string v]) ?_ rfl ⟨rfl, ?_⟩
  · exact results_cell_row (p := 2) (ty := 50) rfl _ _ (w.heap.size + 1) 50 _ (0, 0) _ rfl h Try.underlying50 rfl (by kernel_rfl)
  · exact ((Below.refl _ _).alloc (Nat.le_refl _) _).alloc (by rw [hs]; omega) _
theorem refrec_info : ∃ i z, Try.prog.info? 50 = some i ∧ i.zero = some z ∧ i.size = 7 ∧ i.bytes = 72 ∧ z.cells.size = 7 := by
  have h : (Try.prog.info? 50).map (fun i => (i.zero.map (·.cells.size), i.size, i.bytes)) = some (some 7, 7, 72) := by kernel_rfl
  cases hq : Try.prog.info? 50 with
  | none => rw [hq] at h; cases h
  | some i =>
    rw [hq] at h; simp at h
    obtain ⟨⟨z, hz, hz2⟩, h3, h4⟩ := h
    exact ⟨i, z, rfl, hz, h3, h4, hz2⟩
def cutsR (l : List Rec) (M : Nat) : List Rec := (l.map Rec.cut).take M
theorem cutsR_len (l : List Rec) (M : Nat) : (cutsR l M).length ≤ M := by unfold cutsR; rw [List.length_take]; omega
theorem cutsR_kind (l : List Rec) (M : Nat) (h : ∀ r ∈ l, r.Kind) : ∀ r ∈ cutsR l M, r.Kind := by
  intro a ha
  have := List.mem_of_mem_take ha
  obtain ⟨b, hb, rfl⟩ := List.mem_map.1 this
  exact (h b hb).cut
set_option maxRecDepth 100000 in
set_option maxHeartbeats 4000000 in
theorem Refs_val (w : World) (v : Value) (l : List Rec) (h : LR 7 encR w v l) (hl : l.length ≤ 1000000) :
    Calls Try.prog 11 #[v] w fun e w' => (∃ u, e = .returned u ∧ LR 7 encR w' u l) ∧ Below w.heap.size w w' := by
  obtain ⟨oa, cap, rfl, _, hx⟩ := h
  obtain ⟨n, hn⟩ : ∃ n, n = l.length := ⟨_, rfl⟩
  rw [← hn] at hl ⊢
  have AT := Lib.hid hx
  have HN := Lib.hid hn
  have h0 := own_new w 50 7 encR w.heap.size (Nat.le_refl _)
  have hb0 := (Below.refl w.heap.size w).alloc (Nat.le_refl _) (.cells #[] 50)
  have H0 := Lib.hid h0
  have HB0 := Lib.hid hb0
  clear hx hn h0 hb0
  go_enter Try.func11, Try.ntmps11
  go_wp2_with fail
  go_loopw [3, 4] (fun o i wr => ∃ (q : Nat) (lv : Value), q ≤ n ∧ i = .int .i64 q ∧ lv = o ∧ OwnL w.heap.size 50 7 encR wr lv (l.take q) ∧ Below w.heap.size w wr) (fun _ i _ => n - (intOf i).toNat)
  case atStart => exact ⟨0, _, by omega, rfl, rfl, H0.out, HB0.out⟩
  case round =>
    obtain ⟨q, lv, hq, rfl, rfl, hown, hbl⟩ := hrel
    have OWN := Lib.hid hown
    have HB := Lib.hid hbl
    clear hown hbl
    by_cases hlt : q < n
    · have hql : q < l.length := by have := HN.out; omega
      have hkn : (q : Int) < (n : Int) := by omega
      obtain ⟨b, off, hoa, hc⟩ := AT.out q hql
      have htk : l.take (q + 1) = l.take q ++ [l[q]] := List.take_succ_eq_append_getElem hql
      obtain ⟨r, hr⟩ : ∃ r, r = l[q] := ⟨_, rfl⟩
      rw [← hr] at hc htk
      have hln : (l.take q).length = q := by rw [List.length_take]; omega
      obtain ⟨L, hL⟩ : ∃ L, L = l.take q := ⟨_, rfl⟩
      rw [← hL] at OWN htk hln
      have s0 : wr.cell? ⟨b, off + q * 7, none⟩ = some (.int .u64 (r.lsn : Int)) := (HB.out.cell (p := ⟨b, off + q * 7, none⟩) (lt_of_cellR (hc 0 _ rfl))).trans (hc 0 _ rfl)
      have s1 : wr.cell? ⟨b, off + q * 7 + 1, none⟩ = some (.int .u32 (r.ep : Int)) := (HB.out.cell (p := ⟨b, off + q * 7 + 1, none⟩) (lt_of_cellR (hc 1 _ rfl))).trans (hc 1 _ rfl)
      have s2 : wr.cell? ⟨b, off + q * 7 + 2, none⟩ = some (.int .i64 r.kind) := (HB.out.cell (p := ⟨b, off + q * 7 + 2, none⟩) (lt_of_cellR (hc 2 _ rfl))).trans (hc 2 _ rfl)
      have s3 : wr.cell? ⟨b, off + q * 7 + 3, none⟩ = some (.int .u64 (r.ver : Int)) := (HB.out.cell (p := ⟨b, off + q * 7 + 3, none⟩) (lt_of_cellR (hc 3 _ rfl))).trans (hc 3 _ rfl)
      have s4 : wr.cell? ⟨b, off + q * 7 + 4, none⟩ = some (.int .u64 (r.dl : Int)) := (HB.out.cell (p := ⟨b, off + q * 7 + 4, none⟩) (lt_of_cellR (hc 4 _ rfl))).trans (hc 4 _ rfl)
      have s5 : wr.cell? ⟨b, off + q * 7 + 5, none⟩ = some (.string r.id) := (HB.out.cell (p := ⟨b, off + q * 7 + 5, none⟩) (lt_of_cellR (hc 5 _ rfl))).trans (hc 5 _ rfl)
      have s6 : wr.cell? ⟨b, off + q * 7 + 6, none⟩ = some (.string r.va) := (HB.out.cell (p := ⟨b, off + q * 7 + 6, none⟩) (lt_of_cellR (hc 6 _ rfl))).trans (hc 6 _ rfl)
      have RF := Lib.hid (RefR_val r wr)
      have HTK := Lib.hid htk
      have HLN := Lib.hid hln
      have WJ := Lib.hid (wrR q (by omega))
      subst hoa
      clear hc htk hr hln hL
      go_wp2_with fail
      refine RF.out.mono ?_; rintro e w2 ⟨rfl, b2⟩
      have HB2 := Lib.hid b2
      clear b2 s0 s1 s2 s3 s4 s5 s6
      obtain ⟨ii, zz, i1, i2, i3, i4, i5⟩ := refrec_info
      have I1 := Lib.hid i1
      have I2 := Lib.hid i2
      have I3 := Lib.hid i3
      have I4 := Lib.hid i4
      have I5 := Lib.hid i5
      have OWN0 := Lib.hid (OWN.out.kept (grown_belowR HB2.out) (apartR (by simp)))
      have BEL0 := Lib.hid (stepR HB.out HB2.out)
      have HNW := Lib.hid (heap_alloc_new w2 (.cells (#[.int .u64 (r.lsn : Int), .int .u32 (r.ep : Int), .int .i64 r.kind, .int .u64 (r.ver : Int), .int .u64 (r.dl : Int), .string r.id, .string r.va]) 50))
      clear i1 i2 i3 i4 i5
      go_wp2_with (at_builtin; refine wpList_append_lies _ rfl _ _ 26 rfl w.heap.size 50 ii zz 7 72 Try.underlying26 I1.out I2.out I3.out I4.out I5.out (by decide) lv L.length (L.flatMap encR) rfl ?a10 ⟨w2.heap.size, 0, none⟩ 1 1 (#[.int .u64 (r.lsn : Int), .int .u32 (r.ep : Int), .int .i64 r.kind, .int .u64 (r.ver : Int), .int .u64 (r.dl : Int), .string r.id, .string r.va] : Array Value).toList rfl rfl ?a11 ?a12 ?a13 ?a14 ?a15 ?a16 _ rfl ?_)
      case a10 => exact World.ownsRow.alloc OWN0.out _
      (try case a11 => exact World.news_of_block HNW.out)
      case a12 => simp [Value.oneCell']
      case a13 => decide
      case a14 => simp only [maxLen]; have := HLN.out; omega
      case a15 => have := HLN.out; omega
      case a16 => have := BEL0.out.size; first | omega | (rw [alloc_sizeR]; omega)
      intro g cap5 w5 hown5 hg hw hlt5
      have hbw : Below w.heap.size w w5 := (BEL0.out.trans ((Below.refl _ _).alloc BEL0.out.size _)).trans (below_grownR hg (fun k hk => (own_geR OWN0.out k hk).1) (by rw [alloc_sizeR]; have := BEL0.out.size; omega))
      have HBW := Lib.hid hbw
      have HOWN5 := Lib.hid hown5
      clear hbw hown5 hg hw hlt5
      go_wp2_with fail
      go_roundw
      case rel => exact ⟨q + 1, _, by omega, by first | rfl | (rw [WJ.out]), rfl, by rw [HTK.out]; show World.ownsRow _ _ _ _ _ (L ++ [_]).length ((L ++ [_]).flatMap encR); rw [flat_snoc, List.length_append]; exact HOWN5.out, HBW.out⟩
      case measure => (try rw [WJ.out]); simp only [intOf, Int.toNat_natCast]; omega
    · obtain rfl : q = n := by omega
      have ht : l.take q = l := List.take_of_length_le (by have := HN.out; omega)
      have hl2 := own_lr (k := 7) (enc := encR) (fun _ => rfl) OWN.out
      rw [ht] at hl2
      have HL := Lib.hid hl2
      clear ht hl2 hlt
      go_wp2_with fail
      go_ret
      exact ⟨⟨_, rfl, HL.out⟩, HB.out⟩
set_option maxRecDepth 100000 in
set_option maxHeartbeats 4000000 in
theorem Cut_val (w : World) (v : Value) (l : List Rec) (M : Nat) (h : LR 7 encR w v l) (hl : l.length ≤ 140737488351232) (hM : M ≤ 1000) :
    Calls Try.prog 9 #[v, .int .i64 (M : Int)] w fun e w' => (∃ u, e = .returned u ∧ OwnL w.heap.size 42 7 encR w' u (cutsR l M)) ∧ Below w.heap.size w w' := by
  obtain ⟨oa, cap, rfl, _, hx⟩ := h
  obtain ⟨n, hn⟩ : ∃ n, n = l.length := ⟨_, rfl⟩
  rw [← hn] at hl ⊢
  have AT := Lib.hid hx
  have HN := Lib.hid hn
  have h0 := own_new w 42 7 encR w.heap.size (Nat.le_refl _)
  have hb0 := (Below.refl w.heap.size w).alloc (Nat.le_refl _) (.cells #[] 42)
  have H0 := Lib.hid h0
  have HB0 := Lib.hid hb0
  clear hx hn h0 hb0
  go_enter Try.func9, Try.ntmps9
  go_wp2_with fail
  go_loopw [5, 6] (fun o i wr => ∃ (q : Nat) (lv : Value), q ≤ n ∧ q ≤ M ∧ i = .int .i64 q ∧ lv = o ∧ OwnL w.heap.size 42 7 encR wr lv (cutsR l q) ∧ Below w.heap.size w wr) (fun _ i _ => n - (intOf i).toNat)
  case atStart => exact ⟨0, _, by omega, by omega, rfl, rfl, H0.out, HB0.out⟩
  case round =>
    obtain ⟨q, lv, hq, hqM, rfl, rfl, hown, hbl⟩ := hrel
    have OWN := Lib.hid hown
    have HB := Lib.hid hbl
    clear hown hbl
    by_cases hlt : q < n
    · have hkn : (q : Int) < (n : Int) := by omega
      by_cases hlM : q < M
      · have hkM : (q : Int) < (M : Int) := by omega
        have hql : q < l.length := by have := HN.out; omega
        obtain ⟨b, off, hoa, hc⟩ := AT.out q hql
        have htk : cutsR l (q + 1) = cutsR l q ++ [l[q].cut] := by
          unfold cutsR
          rw [List.take_succ_eq_append_getElem (by rw [List.length_map]; exact hql), List.getElem_map]
        obtain ⟨r, hr⟩ : ∃ r, r = l[q] := ⟨_, rfl⟩
        rw [← hr] at hc htk
        have hln : (cutsR l q).length = q := by unfold cutsR; rw [List.length_take, List.length_map]; omega
        obtain ⟨L, hL⟩ : ∃ L, L = cutsR l q := ⟨_, rfl⟩
        rw [← hL] at OWN htk hln
        have s0 : wr.cell? ⟨b, off + q * 7, none⟩ = some (.int .u64 (r.lsn : Int)) := (HB.out.cell (p := ⟨b, off + q * 7, none⟩) (lt_of_cellR (hc 0 _ rfl))).trans (hc 0 _ rfl)
        have s1 : wr.cell? ⟨b, off + q * 7 + 1, none⟩ = some (.int .u32 (r.ep : Int)) := (HB.out.cell (p := ⟨b, off + q * 7 + 1, none⟩) (lt_of_cellR (hc 1 _ rfl))).trans (hc 1 _ rfl)
        have s2 : wr.cell? ⟨b, off + q * 7 + 2, none⟩ = some (.int .i64 r.kind) := (HB.out.cell (p := ⟨b, off + q * 7 + 2, none⟩) (lt_of_cellR (hc 2 _ rfl))).trans (hc 2 _ rfl)
        have s3 : wr.cell? ⟨b, off + q * 7 + 3, none⟩ = some (.int .u64 (r.ver : Int)) := (HB.out.cell (p := ⟨b, off + q * 7 + 3, none⟩) (lt_of_cellR (hc 3 _ rfl))).trans (hc 3 _ rfl)
        have s4 : wr.cell? ⟨b, off + q * 7 + 4, none⟩ = some (.int .u64 (r.dl : Int)) := (HB.out.cell (p := ⟨b, off + q * 7 + 4, none⟩) (lt_of_cellR (hc 4 _ rfl))).trans (hc 4 _ rfl)
        have s5 : wr.cell? ⟨b, off + q * 7 + 5, none⟩ = some (.string r.id) := (HB.out.cell (p := ⟨b, off + q * 7 + 5, none⟩) (lt_of_cellR (hc 5 _ rfl))).trans (hc 5 _ rfl)
        have s6 : wr.cell? ⟨b, off + q * 7 + 6, none⟩ = some (.string r.va) := (HB.out.cell (p := ⟨b, off + q * 7 + 6, none⟩) (lt_of_cellR (hc 6 _ rfl))).trans (hc 6 _ rfl)
        have RF := Lib.hid (CutR_val r wr)
        have HTK := Lib.hid htk
        have HLN := Lib.hid hln
        have WJ := Lib.hid (wrR q (by omega))
        obtain ⟨rc, hrc⟩ : ∃ x, x = r.cut := ⟨_, rfl⟩
        rw [← hrc] at RF HTK
        subst hoa
        clear hc htk hr hln hL hrc
        go_wp2_with fail
        refine RF.out.mono ?_; rintro e w2 ⟨rfl, b2⟩
        have HB2 := Lib.hid b2
        clear b2 s0 s1 s2 s3 s4 s5 s6
        obtain ⟨ii, zz, i1, i2, i3, i4, i5⟩ := rec_info
        have I1 := Lib.hid i1
        have I2 := Lib.hid i2
        have I3 := Lib.hid i3
        have I4 := Lib.hid i4
        have I5 := Lib.hid i5
        have OWN0 := Lib.hid (OWN.out.kept (grown_belowR HB2.out) (apartR (by simp)))
        have BEL0 := Lib.hid (stepR HB.out HB2.out)
        have HNW := Lib.hid (heap_alloc_new w2 (.cells (#[.int .u64 (rc.lsn : Int), .int .u32 (rc.ep : Int), .int .i64 rc.kind, .int .u64 (rc.ver : Int), .int .u64 (rc.dl : Int), .string rc.id, .string rc.va]) 42))
        clear i1 i2 i3 i4 i5
        go_wp2_with (at_builtin; refine wpList_append_lies _ rfl _ _ 22 rfl w.heap.size 42 ii zz 7 72 Try.underlying22 I1.out I2.out I3.out I4.out I5.out (by decide) lv L.length (L.flatMap encR) rfl ?a20 ⟨w2.heap.size, 0, none⟩ 1 1 (#[.int .u64 (rc.lsn : Int), .int .u32 (rc.ep : Int), .int .i64 rc.kind, .int .u64 (rc.ver : Int), .int .u64 (rc.dl : Int), .string rc.id, .string rc.va] : Array Value).toList rfl rfl ?a21 ?a22 ?a23 ?a24 ?a25 ?a26 _ rfl ?_)
        case a20 => exact World.ownsRow.alloc OWN0.out _
        (try case a21 => exact World.news_of_block HNW.out)
        case a22 => simp [Value.oneCell']
        case a23 => decide
        case a24 => simp only [maxLen]; have := HLN.out; omega
        case a25 => have := HLN.out; omega
        case a26 => have := BEL0.out.size; first | omega | (rw [alloc_sizeR]; omega)
        intro g cap5 w5 hown5 hg hw hlt5
        have hbw : Below w.heap.size w w5 := (BEL0.out.trans ((Below.refl _ _).alloc BEL0.out.size _)).trans (below_grownR hg (fun k hk => (own_geR OWN0.out k hk).1) (by rw [alloc_sizeR]; have := BEL0.out.size; omega))
        have HBW := Lib.hid hbw
        have HOWN5 := Lib.hid hown5
        clear hbw hown5 hg hw hlt5
        go_wp2_with fail
        go_roundw
        case rel => exact ⟨q + 1, _, by omega, by omega, by first | rfl | (rw [WJ.out]), rfl, by rw [HTK.out]; show World.ownsRow _ _ _ _ _ (L ++ [_]).length ((L ++ [_]).flatMap encR); rw [flat_snoc, List.length_append]; exact HOWN5.out, HBW.out⟩
        case measure => (try rw [WJ.out]); simp only [intOf, Int.toNat_natCast]; omega
      · obtain rfl : q = M := by omega
        have hkM : ¬ (q : Int) < (q : Int) := by omega
        go_wp2_with fail
        go_ret
        exact ⟨⟨_, rfl, OWN.out⟩, HB.out⟩
    · obtain rfl : q = n := by omega
      have ht : cutsR l q = cutsR l M := by unfold cutsR; rw [List.take_of_length_le (by rw [List.length_map]; have := HN.out; omega), List.take_of_length_le (by rw [List.length_map]; have := HN.out; omega)]
      rw [ht] at OWN
      clear ht hlt
      go_wp2_with fail
      go_ret
      exact ⟨⟨_, rfl, OWN.out⟩, HB.out⟩
def uptoL (ver : Nat) (l : List Rec) : List Rec := l.filter fun r => decide (r.ver ≤ ver)
set_option maxRecDepth 100000 in
set_option maxHeartbeats 4000000 in
theorem rUpto_val (w : World) (v : Value) (l : List Rec) (ver : Nat) (h : LR 7 encR w v l) (hl : l.length ≤ 1000000) :
    Calls Try.prog 19 #[v, .int .u64 (ver : Int)] w fun e w' => (∃ u, e = .returned u ∧ LR 7 encR w' u (uptoL ver l)) ∧ Below w.heap.size w w' := by
  obtain ⟨oa, cap, rfl, _, hx⟩ := h
  obtain ⟨n, hn⟩ : ∃ n, n = l.length := ⟨_, rfl⟩
  rw [← hn] at hl ⊢
  have AT := Lib.hid hx
  have HN := Lib.hid hn
  have h0 := own_new w 50 7 encR w.heap.size (Nat.le_refl _)
  have hb0 := (Below.refl w.heap.size w).alloc (Nat.le_refl _) (.cells #[] 50)
  have H0 := Lib.hid h0
  have HB0 := Lib.hid hb0
  clear hx hn h0 hb0
  go_enter Try.func19, Try.ntmps19
  go_wp2_with fail
  go_loopw [5, 6] (fun o i wr => ∃ (q : Nat) (lv : Value), q ≤ n ∧ i = .int .i64 q ∧ lv = o ∧ OwnL w.heap.size 50 7 encR wr lv (uptoL ver (l.take q)) ∧ Below w.heap.size w wr) (fun _ i _ => n - (intOf i).toNat)
  case atStart => exact ⟨0, _, by omega, rfl, rfl, H0.out, HB0.out⟩
  case round =>
    obtain ⟨q, lv, hq, rfl, rfl, hown, hbl⟩ := hrel
    have OWN := Lib.hid hown
    have HB := Lib.hid hbl
    clear hown hbl
    by_cases hlt : q < n
    · have hkn : (q : Int) < (n : Int) := by omega
      have hql : q < l.length := by have := HN.out; omega
      obtain ⟨b, off, hoa, hc⟩ := AT.out q hql
      have htk : uptoL ver (l.take (q + 1)) = uptoL ver (l.take q) ++ (if l[q].ver ≤ ver then [l[q]] else []) := by
        unfold uptoL
        rw [List.take_succ_eq_append_getElem hql, List.filter_append]
        congr 1
        by_cases h : l[q].ver ≤ ver <;> simp [h]
      obtain ⟨r, hr⟩ : ∃ r, r = l[q] := ⟨_, rfl⟩
      rw [← hr] at hc htk
      have hln : (uptoL ver (l.take q)).length ≤ q := by
        have := List.length_filter_le (fun r : Rec => decide (r.ver ≤ ver)) (l.take q)
        rw [List.length_take] at this
        unfold uptoL
        omega
      obtain ⟨L, hL⟩ : ∃ L, L = uptoL ver (l.take q) := ⟨_, rfl⟩
      rw [← hL] at OWN htk hln
      have s0 : wr.cell? ⟨b, off + q * 7, none⟩ = some (.int .u64 (r.lsn : Int)) := (HB.out.cell (p := ⟨b, off + q * 7, none⟩) (lt_of_cellR (hc 0 _ rfl))).trans (hc 0 _ rfl)
      have s1 : wr.cell? ⟨b, off + q * 7 + 1, none⟩ = some (.int .u32 (r.ep : Int)) := (HB.out.cell (p := ⟨b, off + q * 7 + 1, none⟩) (lt_of_cellR (hc 1 _ rfl))).trans (hc 1 _ rfl)
      have s2 : wr.cell? ⟨b, off + q * 7 + 2, none⟩ = some (.int .i64 r.kind) := (HB.out.cell (p := ⟨b, off + q * 7 + 2, none⟩) (lt_of_cellR (hc 2 _ rfl))).trans (hc 2 _ rfl)
      have s3 : wr.cell? ⟨b, off + q * 7 + 3, none⟩ = some (.int .u64 (r.ver : Int)) := (HB.out.cell (p := ⟨b, off + q * 7 + 3, none⟩) (lt_of_cellR (hc 3 _ rfl))).trans (hc 3 _ rfl)
      have s4 : wr.cell? ⟨b, off + q * 7 + 4, none⟩ = some (.int .u64 (r.dl : Int)) := (HB.out.cell (p := ⟨b, off + q * 7 + 4, none⟩) (lt_of_cellR (hc 4 _ rfl))).trans (hc 4 _ rfl)
      have s5 : wr.cell? ⟨b, off + q * 7 + 5, none⟩ = some (.string r.id) := (HB.out.cell (p := ⟨b, off + q * 7 + 5, none⟩) (lt_of_cellR (hc 5 _ rfl))).trans (hc 5 _ rfl)
      have s6 : wr.cell? ⟨b, off + q * 7 + 6, none⟩ = some (.string r.va) := (HB.out.cell (p := ⟨b, off + q * 7 + 6, none⟩) (lt_of_cellR (hc 6 _ rfl))).trans (hc 6 _ rfl)
      have HLN := Lib.hid hln
      have WJ := Lib.hid (wrR q (by omega))
      subst hoa
      clear hc hr hln hL
      by_cases hv : r.ver ≤ ver
      · rw [if_pos hv] at htk
        have HTK := Lib.hid htk
        have v1 : (r.ver ≤ ver) = True := eq_true hv
        clear hv htk
        obtain ⟨ii, zz, i1, i2, i3, i4, i5⟩ := refrec_info
        have I1 := Lib.hid i1
        have I2 := Lib.hid i2
        have I3 := Lib.hid i3
        have I4 := Lib.hid i4
        have I5 := Lib.hid i5
        have OWN0 := Lib.hid (OWN.out)
        have BEL0 := Lib.hid (HB.out)
        have HNW := Lib.hid (heap_alloc_new wr (.cells (#[.int .u64 (r.lsn : Int), .int .u32 (r.ep : Int), .int .i64 r.kind, .int .u64 (r.ver : Int), .int .u64 (r.dl : Int), .string r.id, .string r.va]) 50))
        clear i1 i2 i3 i4 i5
        go_wp2_with (at_builtin; refine wpList_append_lies _ rfl _ _ 26 rfl w.heap.size 50 ii zz 7 72 Try.underlying26 I1.out I2.out I3.out I4.out I5.out (by decide) lv L.length (L.flatMap encR) rfl ?a30 ⟨wr.heap.size, 0, none⟩ 1 1 (#[.int .u64 (r.lsn : Int), .int .u32 (r.ep : Int), .int .i64 r.kind, .int .u64 (r.ver : Int), .int .u64 (r.dl : Int), .string r.id, .string r.va] : Array Value).toList rfl rfl ?a31 ?a32 ?a33 ?a34 ?a35 ?a36 _ rfl ?_)
        case a30 => exact World.ownsRow.alloc OWN0.out _
        (try case a31 => exact World.news_of_block HNW.out)
        case a32 => simp [Value.oneCell']
        case a33 => decide
        case a34 => simp only [maxLen]; have := HLN.out; omega
        case a35 => have := HLN.out; omega
        case a36 => have := BEL0.out.size; first | omega | (rw [alloc_sizeR]; omega)
        intro g cap5 w5 hown5 hg hw hlt5
        have hbw : Below w.heap.size w w5 := (BEL0.out.trans ((Below.refl _ _).alloc BEL0.out.size _)).trans (below_grownR hg (fun k hk => (own_geR OWN0.out k hk).1) (by rw [alloc_sizeR]; have := BEL0.out.size; omega))
        have HBW := Lib.hid hbw
        have HOWN5 := Lib.hid hown5
        clear hbw hown5 hg hw hlt5
        clear s0 s1 s2 s3 s4 s5 s6 v1
        go_wp2_with fail
        go_roundw
        case rel => exact ⟨q + 1, _, by omega, by first | rfl | (rw [WJ.out]), rfl, by rw [HTK.out]; show World.ownsRow _ _ _ _ _ (L ++ [_]).length ((L ++ [_]).flatMap encR); rw [flat_snoc, List.length_append]; exact HOWN5.out, HBW.out⟩
        case measure => (try rw [WJ.out]); simp only [intOf, Int.toNat_natCast]; omega
      · rw [if_neg hv, List.append_nil] at htk
        have HTK := Lib.hid htk
        have v1 : (r.ver ≤ ver) = False := eq_false hv
        clear hv htk
        go_wp2_with fail
        go_roundw
        case rel => exact ⟨q + 1, _, by omega, by first | rfl | (rw [WJ.out]), rfl, by rw [HTK.out]; exact OWN.out, HB.out⟩
        case measure => (try rw [WJ.out]); simp only [intOf, Int.toNat_natCast]; omega
    · obtain rfl : q = n := by omega
      have ht : l.take q = l := List.take_of_length_le (by have := HN.out; omega)
      have hl2 := own_lr (k := 7) (enc := encR) (fun _ => rfl) OWN.out
      rw [ht] at hl2
      have HL := Lib.hid hl2
      clear ht hl2 hlt
      go_wp2_with fail
      go_ret
      exact ⟨⟨_, rfl, HL.out⟩, HB.out⟩
def sesL (now : Nat) (l : List Rec) : List Ses := (l.filter fun r => decide (r.kind = 1 ∧ now < r.dl)).map fun r => ⟨r.id, r.va, r.dl⟩
theorem sesL_snoc (now : Nat) (l : List Rec) (r : Rec) : sesL now (l ++ [r]) = sesL now l ++ (if r.kind = 1 ∧ now < r.dl then [⟨r.id, r.va, r.dl⟩] else []) := by
  unfold sesL
  rw [List.filter_append, List.map_append]
  congr 1
  by_cases h : r.kind = 1 ∧ now < r.dl <;> simp [h]
theorem sesL_len (now : Nat) (l : List Rec) : (sesL now l).length ≤ l.length := by
  unfold sesL; rw [List.length_map]; exact List.length_filter_le _ _
theorem ses1_info : ∃ i z, Try.prog.info? 46 = some i ∧ i.zero = some z ∧ i.size = 3 ∧ i.bytes = 40 ∧ z.cells.size = 3 := by
  have h : (Try.prog.info? 46).map (fun i => (i.zero.map (·.cells.size), i.size, i.bytes)) = some (some 3, 3, 40) := by kernel_rfl
  cases hq : Try.prog.info? 46 with
  | none => rw [hq] at h; cases h
  | some i =>
    rw [hq] at h; simp at h
    obtain ⟨⟨z, hz, hz2⟩, h3, h4⟩ := h
    exact ⟨i, z, rfl, hz, h3, h4, hz2⟩
set_option maxRecDepth 100000 in
set_option maxHeartbeats 4000000 in
theorem Sessions_val (w : World) (v : Value) (l : List Rec) (now : Nat) (h : LR 7 encR w v l) (hl : l.length ≤ 1000000) (hk : ∀ r ∈ l, r.Kind) :
    Calls Try.prog 16 #[v, .int .u64 (now : Int)] w fun e w' => (∃ u, e = .returned u ∧ LR 3 encS w' u (sesL now (newL l))) ∧ Below w.heap.size w w' := by
  have nv := Newest_val l v w hl hk h
  have hN := newL_len l
  obtain ⟨N, hNN⟩ : ∃ N, N = newL l := ⟨_, rfl⟩
  rw [← hNN] at nv hN ⊢
  have NV := Lib.hid nv
  have hN6 : N.length ≤ 1000000 := by omega
  obtain ⟨n, hn⟩ : ∃ n, n = N.length := ⟨_, rfl⟩
  rw [← hn] at hN6
  have HN := Lib.hid hn
  clear nv hn hN hNN h hk hl
  go_enter Try.func16, Try.ntmps16
  go_wp2_with fail
  refine NV.out.mono ?_; rintro e w1 ⟨⟨u, rfl, hu⟩, b1⟩
  obtain ⟨oa, cap, rfl, _, hx⟩ := hu
  rw [← HN.out]
  have AT := Lib.hid hx
  have B1 := Lib.hid b1
  clear hx b1
  go_wp2_with fail
  go_loopw [5, 11] (fun o i wr => ∃ (q : Nat) (lv : Value), q ≤ n ∧ i = .int .i64 q ∧ lv = o ∧ OwnL w1.heap.size 46 3 encS wr lv (sesL now (N.take q)) ∧ Below w1.heap.size w1 wr) (fun _ i _ => n - (intOf i).toNat)
  case atStart => exact ⟨0, _, by omega, rfl, rfl, own_nil _ _ _ _ _, Below.refl _ _⟩
  case round =>
    obtain ⟨q, lv, hq, rfl, rfl, hown, hbl⟩ := hrel
    have OWN := Lib.hid hown
    have HB := Lib.hid hbl
    clear hown hbl
    by_cases hlt : q < n
    · have hkn : (q : Int) < (n : Int) := by omega
      have hql : q < N.length := by have := HN.out; omega
      obtain ⟨b, off, hoa, hc⟩ := AT.out q hql
      have htk : sesL now (N.take (q + 1)) = sesL now (N.take q) ++ (if N[q].kind = 1 ∧ now < N[q].dl then [⟨N[q].id, N[q].va, N[q].dl⟩] else []) := by
        rw [List.take_succ_eq_append_getElem hql, sesL_snoc]
      obtain ⟨r, hr⟩ : ∃ r, r = N[q] := ⟨_, rfl⟩
      rw [← hr] at hc htk
      have hln : (sesL now (N.take q)).length ≤ q := by
        have := sesL_len now (N.take q)
        rw [List.length_take] at this
        omega
      obtain ⟨L, hL⟩ : ∃ L, L = sesL now (N.take q) := ⟨_, rfl⟩
      rw [← hL] at OWN htk hln
      have s0 : wr.cell? ⟨b, off + q * 7, none⟩ = some (.int .u64 (r.lsn : Int)) := (HB.out.cell (p := ⟨b, off + q * 7, none⟩) (lt_of_cellR (hc 0 _ rfl))).trans (hc 0 _ rfl)
      have s1 : wr.cell? ⟨b, off + q * 7 + 1, none⟩ = some (.int .u32 (r.ep : Int)) := (HB.out.cell (p := ⟨b, off + q * 7 + 1, none⟩) (lt_of_cellR (hc 1 _ rfl))).trans (hc 1 _ rfl)
      have s2 : wr.cell? ⟨b, off + q * 7 + 2, none⟩ = some (.int .i64 r.kind) := (HB.out.cell (p := ⟨b, off + q * 7 + 2, none⟩) (lt_of_cellR (hc 2 _ rfl))).trans (hc 2 _ rfl)
      have s3 : wr.cell? ⟨b, off + q * 7 + 3, none⟩ = some (.int .u64 (r.ver : Int)) := (HB.out.cell (p := ⟨b, off + q * 7 + 3, none⟩) (lt_of_cellR (hc 3 _ rfl))).trans (hc 3 _ rfl)
      have s4 : wr.cell? ⟨b, off + q * 7 + 4, none⟩ = some (.int .u64 (r.dl : Int)) := (HB.out.cell (p := ⟨b, off + q * 7 + 4, none⟩) (lt_of_cellR (hc 4 _ rfl))).trans (hc 4 _ rfl)
      have s5 : wr.cell? ⟨b, off + q * 7 + 5, none⟩ = some (.string r.id) := (HB.out.cell (p := ⟨b, off + q * 7 + 5, none⟩) (lt_of_cellR (hc 5 _ rfl))).trans (hc 5 _ rfl)
      have s6 : wr.cell? ⟨b, off + q * 7 + 6, none⟩ = some (.string r.va) := (HB.out.cell (p := ⟨b, off + q * 7 + 6, none⟩) (lt_of_cellR (hc 6 _ rfl))).trans (hc 6 _ rfl)
      have n0 := heap_alloc_new wr (.cells #[.int .u64 (r.lsn : Int), .int .u32 (r.ep : Int), .int .i64 r.kind, .int .u64 (r.ver : Int), .int .u64 (r.dl : Int), .string r.id, .string r.va] 42)
      have c2 := (cell_of_row _ _ 2 _ _ _ n0).trans (show _ = some (.int .i64 r.kind) from rfl)
      have c4 := (cell_of_row _ _ 4 _ _ _ n0).trans (show _ = some (.int .u64 (r.dl : Int)) from rfl)
      have c5 := (cell_of_row _ _ 5 _ _ _ n0).trans (show _ = some (.string r.id) from rfl)
      have c6 := (cell_of_row _ _ 6 _ _ _ n0).trans (show _ = some (.string r.va) from rfl)
      have bq : Below wr.heap.size wr (wr.alloc (.cells #[.int .u64 (r.lsn : Int), .int .u32 (r.ep : Int), .int .i64 r.kind, .int .u64 (r.ver : Int), .int .u64 (r.dl : Int), .string r.id, .string r.va] 42)) := (Below.refl _ _).alloc (Nat.le_refl _) _
      have HLN := Lib.hid hln
      have WJ := Lib.hid (wrR q (by omega))
      have BQ := Lib.hid bq
      have HW := Lib.hid (stepR HB.out bq)
      have OWN1 := Lib.hid (OWN.out.kept (grown_belowR bq) (apartR (by simp)))
      subst hoa
      clear hc hr hln hL n0 bq
      by_cases hk1 : r.kind = 1
      · have g1 : (r.kind == 1) = true := by rw [hk1]; rfl
        have g2 : (r.kind = 1) = True := eq_true hk1
        by_cases hd : now < r.dl
        · have v1 : (now < r.dl) = True := eq_true hd
          have v2 : (r.dl ≤ now) = False := eq_false (by omega)
          rw [if_pos ⟨hk1, hd⟩] at htk
          have HTK := Lib.hid htk
          clear hd htk hk1
          obtain ⟨ii, zz, i1, i2, i3, i4, i5⟩ := ses1_info
          have I1 := Lib.hid i1
          have I2 := Lib.hid i2
          have I3 := Lib.hid i3
          have I4 := Lib.hid i4
          have I5 := Lib.hid i5
          have OWN0 := Lib.hid (OWN1.out)
          have BEL0 := Lib.hid (HW.out)
          have HNW := Lib.hid (two_newR wr (.cells #[.int .u64 (r.lsn : Int), .int .u32 (r.ep : Int), .int .i64 r.kind, .int .u64 (r.ver : Int), .int .u64 (r.dl : Int), .string r.id, .string r.va] 42) (.cells (#[.string r.id, .string r.va, .int .u64 (r.dl : Int)]) 46)).2
          clear i1 i2 i3 i4 i5
          go_wp2_with (at_builtin; refine wpList_append_lies _ rfl _ _ 33 rfl w1.heap.size 46 ii zz 3 40 Try.underlying33 I1.out I2.out I3.out I4.out I5.out (by decide) lv L.length (L.flatMap encS) rfl ?a40 ⟨wr.heap.size + 1, 0, none⟩ 1 1 (#[.string r.id, .string r.va, .int .u64 (r.dl : Int)] : Array Value).toList rfl rfl ?a41 ?a42 ?a43 ?a44 ?a45 ?a46 _ rfl ?_)
          case a40 => exact World.ownsRow.alloc OWN0.out _
          (try case a41 => exact World.news_of_block HNW.out)
          case a42 => simp [Value.oneCell']
          case a43 => decide
          case a44 => simp only [maxLen]; have := HLN.out; omega
          case a45 => have := HLN.out; omega
          case a46 => have := BEL0.out.size; first | omega | (rw [alloc_sizeR]; omega)
          intro g cap5 w5 hown5 hg hw hlt5
          have hbw : Below w1.heap.size w1 w5 := (BEL0.out.trans ((Below.refl _ _).alloc BEL0.out.size _)).trans (below_grownR hg (fun k hk => (own_geR OWN0.out k hk).1) (by rw [alloc_sizeR]; have := BEL0.out.size; omega))
          have HBW := Lib.hid hbw
          have HOWN5 := Lib.hid hown5
          clear hbw hown5 hg hw hlt5
          clear s0 s1 s2 s3 s4 s5 s6 c2 c4 c5 c6 v1 v2 g1 g2
          go_wp2_with fail
          go_roundw
          case rel => exact ⟨q + 1, _, by omega, by first | rfl | (rw [WJ.out]), rfl, by rw [HTK.out]; show World.ownsRow _ _ _ _ _ (L ++ [_]).length ((L ++ [_]).flatMap encS); rw [flat_snoc, List.length_append]; exact HOWN5.out, HBW.out⟩
          case measure => (try rw [WJ.out]); simp only [intOf, Int.toNat_natCast]; omega
        · have v1 : (now < r.dl) = False := eq_false hd
          have v2 : (r.dl ≤ now) = True := eq_true (by omega)
          rw [if_neg (fun h => hd h.2), List.append_nil] at htk
          have HTK := Lib.hid htk
          clear hd htk hk1
          go_wp2_with fail
          go_roundw
          case rel => exact ⟨q + 1, _, by omega, by first | rfl | (rw [WJ.out]), rfl, by rw [HTK.out]; exact OWN1.out, stepR HB.out BQ.out⟩
          case measure => (try rw [WJ.out]); simp only [intOf, Int.toNat_natCast]; omega
      · have g1 : (r.kind == 1) = false := beq_eq_false_iff_ne.2 hk1
        have g2 : (r.kind = 1) = False := eq_false hk1
        rw [if_neg (fun h => hk1 h.1), List.append_nil] at htk
        have HTK := Lib.hid htk
        clear htk hk1
        go_wp2_with fail
        go_roundw
        case rel => exact ⟨q + 1, _, by omega, by first | rfl | (rw [WJ.out]), rfl, by rw [HTK.out]; exact OWN1.out, stepR HB.out BQ.out⟩
        case measure => (try rw [WJ.out]); simp only [intOf, Int.toNat_natCast]; omega
    · obtain rfl : q = n := by omega
      have ht : N.take q = N := List.take_of_length_le (by have := HN.out; omega)
      have hl2 := own_lr (k := 3) (enc := encS) (fun _ => rfl) OWN.out
      rw [ht] at hl2
      have HL := Lib.hid hl2
      clear ht hl2 hlt
      go_wp2_with fail
      go_ret
      exact ⟨⟨_, rfl, HL.out⟩, stepR B1.out HB.out⟩
end Go.Proofs.Ytlnhdbbhlcpkbaa.G
