/- The document's store: those that live no more are dropped. -/
import Derived.Test.YtmbidannodelfaaQa
import Derived.Test.YtmbidannodelfaaGFast
import Derived.BigQuiet
namespace Go.Proofs.Ytmbidannodelfaa.G
open Go.RowKit Go.Maps Go.Proofs.Ytmbidannodelfaa.WordPlain Go.Proofs.Ytmbidannodelfaa.Loose
set_option linter.unusedVariables false
set_option linter.unusedSimpArgs false

theorem filter_snoc (p : Ses → Bool) (l : List Ses) (r : Nat) (h : r < l.length) : (l.take (r + 1)).filter p = (l.take r).filter p ++ (if p l[r] then [l[r]] else []) := by
  rw [List.take_succ_eq_append_getElem h, List.filter_append]
  congr 1
  by_cases hp : p l[r] = true
  · rw [if_pos hp, List.filter_cons_of_pos hp]; rfl
  · rw [if_neg hp, List.filter_cons_of_neg hp]; rfl
/-- the list, put into the store's block -/
theorem RPl.set {W : World} {P now : Nat} {q : Int} {v u : Value} {M : List Ses} (hb : W.heap[P]? = some (.cells #[.int .u64 (now : Int), .int .i64 q, v] 29 (0, 0))) (h : LR 3 encS W u M) : RPl (W.setCell ⟨P, 2, none⟩ u) P now q M := by
  refine ⟨u, ?_, ?_⟩
  · rw [heap_setCell_same _ _ _ _ _ _ hb]; rfl
  · obtain ⟨oa, cap, h1, h2, h3⟩ := h
    refine ⟨oa, cap, h1, h2, fun i hi => ?_⟩
    obtain ⟨b', off, h4, h5⟩ := h3 i hi
    have h50 := h5 0 _ rfl
    have hp : b' ≠ P := by
      rintro rfl
      rw [cell_of_row W b' (off + i * 3 + 0) _ _ (0, 0) hb] at h50
      match hj : off + i * 3 + 0 with
      | 0 => rw [hj] at h50; cases h50
      | 1 => rw [hj] at h50; cases h50
      | 2 => exact absurd hj (by
          intro hj
          have h51 := h5 2 _ rfl
          rw [cell_of_row W b' (off + i * 3 + 2) _ _ (0, 0) hb, show off + i * 3 + 2 = 4 by omega] at h51
          simp at h51)
      | j + 3 => rw [hj] at h50; simp at h50
    exact ⟨b', off, h4, fun j u hu => (World.cell?_of_block (a := ⟨b', off + i * 3 + j, none⟩) (heap_setCell_other _ _ _ _ hp)).trans (h5 j u hu)⟩

set_option maxRecDepth 100000 in
set_option maxHeartbeats 4000000 in
theorem rdrop_val (w : World) (P now : Nat) (q : Int) (L : List Ses) (h : RPl w P now q L) (hl : L.length ≤ 1000000) :
    Calls Try.prog 28 #[.pointer (some ⟨P, 0, none⟩)] w fun e w' => e = .returned (.tuple #[]) ∧ RPl w' P now q (L.filter fun s => decide (now < s.dl)) ∧ Mp P P w w' := by
  obtain ⟨v, hrow, oa, cap, rfl, _, hx⟩ := h
  obtain ⟨n, hn⟩ : ∃ n, n = L.length := ⟨_, rfl⟩
  rw [← hn] at hrow hl
  have hp := lt_of_rowR hrow
  have rw_ : ∀ V, Below w.heap.size w V → V.heap[P]? = some (.cells #[.int .u64 (now : Int), .int .i64 q, .slice oa n cap] 29 (0, 0)) := fun V hV => (hV.block _ hp).trans hrow
  have RW := Lib.hid rw_
  have HX := Lib.hid hx
  have HN := Lib.hid hn
  have HP := Lib.hid hp
  have h0 := own_new w 79 3 encS w.heap.size (Nat.le_refl _)
  have hb0 := (Below.refl w.heap.size w).alloc (Nat.le_refl _) (.cells #[] 79)
  have H0 := Lib.hid h0
  have HB0 := Lib.hid hb0
  clear hx hn hrow hp rw_ h0 hb0
  go_enter Try.func28, Try.ntmps28
  go_wp2_with fail
  go_loopw [2, 3] (fun o i wr => ∃ (r : Nat) (lv : Value), r ≤ n ∧ i = .int .i64 r ∧ lv = o ∧ OwnL w.heap.size 79 3 encS wr lv ((L.take r).filter fun s => decide (now < s.dl)) ∧ Below w.heap.size w wr) (fun _ i _ => n - (intOf i).toNat)
  case atStart => exact ⟨0, _, by omega, rfl, rfl, H0.out, HB0.out⟩
  case round =>
    obtain ⟨r, lv, hr, rfl, rfl, hown, hbl⟩ := hrel
    have OWN := Lib.hid hown
    have BL := Lib.hid hbl
    clear hown hbl
    have c0 := (cell_of_row _ _ 0 _ _ _ (RW.out wr BL.out)).trans (show _ = some (.int .u64 (now : Int)) from rfl)
    have c2 := (cell_of_row _ _ 2 _ _ _ (RW.out wr BL.out)).trans (show _ = some (.slice oa n cap) from rfl)
    by_cases hlt : r < n
    · have hkn : (r : Int) < (n : Int) := by omega
      have hsl : r < L.length := by have := HN.out; omega
      obtain ⟨b', off, hoa, hcell⟩ := HX.out r hsl
      have hfs := filter_snoc (fun s => decide (now < s.dl)) L r hsl
      obtain ⟨x, hxx⟩ : ∃ x, x = L[r] := ⟨_, rfl⟩
      rw [← hxx] at hcell hfs
      have hc0 := hcell 0 _ rfl
      have hlc := lt_of_cellR hc0
      have xc : ∀ V, Below wr.heap.size wr V → ∀ j u, (encS x)[j]? = some u → V.cell? ⟨b', off + r * 3 + j, none⟩ = some u := fun V hV j u hu => ((stepR BL.out hV).cell (p := ⟨b', off + r * 3 + j, none⟩) hlc).trans (hcell j u hu)
      have hln : ((L.take r).filter fun s => decide (now < s.dl)).length ≤ r := Nat.le_trans (List.length_filter_le _ _) (by rw [List.length_take]; omega)
      obtain ⟨M, hM⟩ : ∃ M, M = (L.take r).filter fun s => decide (now < s.dl) := ⟨_, rfl⟩
      rw [← hM] at OWN hln hfs
      obtain ⟨xi, xv, xd⟩ := x
      have x2 := cell_regrown (xc wr (Below.refl _ _) 2 _ rfl)
      have k0 := cell_regrown c0
      have k2 := cell_regrown c2
      have XC := Lib.hid xc
      have HFS := Lib.hid hfs
      subst hoa
      clear hcell hc0 hxx hM xc hfs hlc
      by_cases hd : now < xd
      · have g1 : (decide ((xd : Int) > (now : Int))) = true := decide_eq_true (by omega)
        have g2 : (now < xd) = True := eq_true hd
        have HFS2 : Hid (List.filter (fun s => decide (now < s.dl)) (L.take (r + 1)) = M ++ [⟨xi, xv, xd⟩]) := Lib.hid (by rw [HFS.out]; simp [hd])
        clear hd
        go_wp2_with fail
        refine Loose.wp_region_quiet_fast (by kernel_rfl) (by kernel_rfl) ?_
        (try simp only [List.append_eq, List.cons_append, List.nil_append])
        repeat (go_big_quiet_step (fail))
        refine wpQuiet_nil ?_
        intro _ hw'
        obtain ⟨⟨dq, osq⟩, hw''⟩ := hw'
        subst hw''
        clear x2 k0 k2 c0 c2 g1 g2
        have bQ := below_regrown wr dq osq
        obtain ⟨V, hV⟩ : ∃ V, V = Go.Sort.grow (Go.redrawn wr dq) osq := ⟨_, rfl⟩
        rw [← hV] at bQ
        rw [← hV]
        have c2 := (cell_of_row _ _ 2 _ _ _ (RW.out V (stepR BL.out bQ))).trans (show _ = some (.slice (some ⟨b', off, none⟩) n cap) from rfl)
        have x0 := XC.out V bQ 0 _ rfl
        have x1 := XC.out V bQ 1 _ rfl
        have x2 := XC.out V bQ 2 _ rfl
        rw [Nat.add_zero] at x0
        have BLV := Lib.hid (stepR BL.out bQ)
        have OWV := Lib.hid (OWN.out.kept (grown_belowR bQ) (apartR (by simp)))
        clear bQ hV
        obtain ⟨ii, zz, i1, i2, i3, i4, i5⟩ := ses2_info
        have I1 := Lib.hid i1
        have I2 := Lib.hid i2
        have I3 := Lib.hid i3
        have I4 := Lib.hid i4
        have I5 := Lib.hid i5
        have hnw := heap_alloc_new V (.cells #[.string xi, .string xv, .int .u64 (xd : Int)] 79)
        have HNW := Lib.hid hnw
        have HS1 := Lib.hid (alloc_sizeR V (.cells #[.string xi, .string xv, .int .u64 (xd : Int)] 79))
        have HBL := Lib.hid BLV.out
        clear i1 i2 i3 i4 i5 hnw
        go_wp2_with (at_builtin; go_loud (refine wpList_append_lies _ rfl _ _ 27 rfl w.heap.size 79 ii zz 3 40 Try.underlying27 I1.out I2.out I3.out I4.out I5.out (by decide) lv M.length (M.flatMap encS) rfl ?h0a ⟨V.heap.size, 0, none⟩ 1 1 [.string xi, .string xv, .int .u64 (xd : Int)] rfl rfl ?h1a ?h2a ?h3a ?h4a ?h5a ?h6a _ rfl ?_))
        case h0a => exact (OWV.out).alloc _
        try (case h1a => exact World.news_of_block HNW.out)
        case h2a => simp [Value.oneCell']
        try (case h3a => decide)
        case h4a => simp only [maxLen]; omega
        case h5a => omega
        case h6a => have := HBL.out.size; have := HS1.out; omega
        intro ga capa w5 hown5 hg hw hlt5
        have hbw : Below w.heap.size w w5 := HBL.out.trans (below_grownR ⟨hg.os, hg.tape, hg.output, by have := hg.size; rw [HS1.out] at this; omega, fun k hk hn => (hg.block k (by rw [HS1.out]; omega) hn).trans ((Below.refl V.heap.size V).alloc (Nat.le_refl _) (.cells #[.string xi, .string xv, .int .u64 (xd : Int)] 79) |>.block k hk)⟩ (fun k hk => (own_geR (OWV.out) k hk).1) HBL.out.size)
        have hown6 : OwnL w.heap.size 79 3 encS w5 (.slice (some ⟨ga, 0, none⟩) (M.length + 1) capa) (M ++ [⟨xi, xv, xd⟩]) := by
          show w5.ownsRow _ _ _ _ (M ++ [_]).length ((M ++ [_]).flatMap encS)
          rw [flat_snoc, List.length_append]
          exact hown5
        have OWN5 := Lib.hid hown6
        have BW5 := Lib.hid hbw
        clear hown6 hbw hown5 hg hw hlt5
        clear c2 x0 x1 x2
        go_wp2_with fail
        go_roundw
        case rel => exact ⟨r + 1, _, by omega, by go_num, rfl, by rw [HFS2.out]; exact OWN5.out, BW5.out⟩
        case measure => simp [intOf]; omega
      · have g1 : (decide ((xd : Int) > (now : Int))) = false := decide_eq_false (by omega)
        have g2 : (now < xd) = False := eq_false hd
        have HFS2 : Hid (List.filter (fun s => decide (now < s.dl)) (L.take (r + 1)) = M) := Lib.hid (by rw [HFS.out]; simp [hd])
        clear hd
        go_wp2_with fail
        refine Loose.wp_region_quiet_fast (by kernel_rfl) (by kernel_rfl) ?_
        (try simp only [List.append_eq, List.cons_append, List.nil_append])
        repeat (go_big_quiet_step (fail))
        refine wpQuiet_nil ?_
        intro _ hw'
        obtain ⟨⟨dq, osq⟩, hw''⟩ := hw'
        subst hw''
        clear x2 k0 k2 c0 c2 g1 g2
        have bQ := below_regrown wr dq osq
        obtain ⟨V, hV⟩ : ∃ V, V = Go.Sort.grow (Go.redrawn wr dq) osq := ⟨_, rfl⟩
        rw [← hV] at bQ
        rw [← hV]
        have BLV := Lib.hid (stepR BL.out bQ)
        have OWV := Lib.hid (OWN.out.kept (grown_belowR bQ) (apartR (by simp)))
        clear bQ hV
        go_wp2_with fail
        go_roundw
        case rel => exact ⟨r + 1, _, by omega, by go_num, rfl, by rw [HFS2.out]; exact OWV.out, BLV.out⟩
        case measure => simp [intOf]; omega
    · have hkn : ¬ (r : Int) < (n : Int) := by omega
      have ht : L.take r = L := List.take_of_length_le (by have := HN.out; omega)
      rw [ht] at OWN
      have hl2 := own_lr (k := 3) (enc := encS) (fun _ => rfl) OWN.out
      have fz := frozen_of_row _ _ 2 _ _ (RW.out wr BL.out)
      obtain ⟨ol, cl, hlv⟩ := hl2.form
      obtain ⟨nl, hnl⟩ : ∃ m, m = (L.filter fun s => decide (now < s.dl)).length := ⟨_, rfl⟩
      rw [← hnl] at hlv
      subst hlv
      have END := Lib.hid (RPl.set (RW.out wr BL.out) hl2)
      have MPE : Hid (Mp P P w (wr.setCell ⟨P, 2, none⟩ (.slice ol nl cl))) := Lib.hid ((Mp.mk BL.out.os BL.out.tape BL.out.output BL.out.size (fun i hi _ _ => BL.out.block i hi)).self)
      clear ht hl2 hnl
      go_wp2_with fail
      refine bodyPost_end (v := .tuple #[]) (by rw [results_none rfl]) rfl ⟨rfl, END.out, MPE.out⟩
end Go.Proofs.Ytmbidannodelfaa.G
