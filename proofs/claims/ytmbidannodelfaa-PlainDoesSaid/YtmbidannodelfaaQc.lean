/- The document's store: a session is put in. -/
import Derived.Test.YtmbidannodelfaaQb
import Derived.Test.YtmbidannodelfaaGFast
import Derived.BigQuiet
namespace Go.Proofs.Ytmbidannodelfaa.G
open Go.RowKit Go.Maps Go.Proofs.Ytmbidannodelfaa.WordPlain Go.Proofs.Ytmbidannodelfaa.Loose
set_option linter.unusedVariables false
set_option linter.unusedSimpArgs false

/-- where it goes, and what stands then -/
def PutR (now : Nat) (s : Ses) (L M : List Ses) : Prop := ∃ r, r ≤ L.length ∧ (∀ j (h : j < L.length), j < r → Op.bytesLess L[j].id.toList s.id.toList = true) ∧ (∀ h : r < L.length, Op.bytesLess L[r].id.toList s.id.toList = false) ∧
  M = (L.take r ++ [s] ++ (L.drop r).filter (fun x => !(x.id.toList == s.id.toList))).filter (fun x => decide (now < x.dl))

set_option maxRecDepth 100000 in
set_option maxHeartbeats 8000000 in
theorem rput_val (w : World) (P now : Nat) (q : Int) (L : List Ses) (s : Ses) (h : RPl w P now q L) (hl : L.length ≤ 100000) :
    Calls Try.prog 37 #[.pointer (some ⟨P, 0, none⟩), .agg s.row] w fun e w' => e = .returned (.tuple #[]) ∧ (∃ M, PutR now s L M ∧ RPl w' P now q M) ∧ Mp P P w w' := by
  obtain ⟨W0, hW0⟩ : ∃ W, W = w.alloc (.cells s.row 79) := ⟨_, rfl⟩
  have bw0 := (Below.refl w.heap.size w).alloc (Nat.le_refl _) (.cells s.row 79)
  have nx := heap_alloc_new w (.cells s.row 79)
  rw [← hW0] at bw0 nx
  obtain ⟨v, hrow, oa, cap, rfl, _, hx⟩ := h.below bw0
  obtain ⟨n, hn⟩ : ∃ n, n = L.length := ⟨_, rfl⟩
  rw [← hn] at hrow hl
  obtain ⟨S, hS⟩ : ∃ x, x = s := ⟨_, rfl⟩
  obtain ⟨si, sv, sd⟩ := s
  simp only [Ses.row] at hW0 nx ⊢
  obtain ⟨X, hX⟩ : ∃ X, X = w.heap.size := ⟨_, rfl⟩
  rw [← hX] at nx
  have hp := lt_of_rowR hrow
  have hxx := lt_of_rowR nx
  have rw_ : ∀ V, Below W0.heap.size W0 V → V.heap[P]? = some (.cells #[.int .u64 (now : Int), .int .i64 q, .slice oa n cap] 29 (0, 0)) := fun V hV => (hV.block _ hp).trans hrow
  have rx_ : ∀ V, Below W0.heap.size W0 V → V.heap[X]? = some (.cells #[.string si, .string sv, .int .u64 (sd : Int)] 79 (0, 0)) := fun V hV => (hV.block _ hxx).trans nx
  have RW := Lib.hid rw_
  have RX := Lib.hid rx_
  have HX := Lib.hid hx
  have HN := Lib.hid hn
  have HPP := Lib.hid hp
  have HXX := Lib.hid hX
  have hsz : W0.heap.size = X + 1 := by rw [hW0, alloc_sizeR, hX]
  have HSZ := Lib.hid hsz
  clear hsz
  have BW0 := Lib.hid bw0
  have HW0 := Lib.hid hW0
  have h0 := own_new W0 79 3 encS W0.heap.size (Nat.le_refl _)
  have hb0 := (Below.refl W0.heap.size W0).alloc (Nat.le_refl _) (.cells #[] 79)
  rw [hW0] at h0 hb0
  have H0 := Lib.hid h0
  have HB0 := Lib.hid hb0
  clear hx hn hrow hp rw_ rx_ hxx nx h0 hb0 hX bw0 hW0 hS h
  go_enter Try.func37, Try.ntmps37
  go_wp2_with fail
  rw [← HXX.out]
  have H0' := H0.out
  have HB0' := HB0.out
  rw [← HW0.out] at H0' HB0'
  have H1 := Lib.hid H0'
  have HB1 := Lib.hid HB0'
  rw [← HW0.out]
  clear H0 HB0 H0' HB0'
  go_loopw [4, 5] (fun o i wr => ∃ (r : Nat) (lv : Value), r ≤ n ∧ i = .int .i64 r ∧ lv = o ∧ OwnL W0.heap.size 79 3 encS wr lv (L.take r) ∧ (∀ j (h : j < L.length), j < r → Op.bytesLess L[j].id.toList si.toList = true) ∧ Below W0.heap.size W0 wr) (fun _ i _ => n - (intOf i).toNat)
  case atStart =>
    refine ⟨0, .slice (some ⟨W0.heap.size, 0, none⟩) 0 0, by omega, rfl, by rw [HSZ.out], ?_, fun j _ hj => absurd hj (by omega), ?_⟩
    · exact H1.out
    · exact HB1.out
  case round =>
    obtain ⟨r, lv, hr, rfl, rfl, hown, hls, hbl⟩ := hrel
    have OWN := Lib.hid hown
    have BL := Lib.hid hbl
    have LS := Lib.hid hls
    clear hown hbl hls
    have k2 := cell_regrown ((cell_of_row _ _ 2 _ _ _ (RW.out wr BL.out)).trans (show _ = some (.slice oa n cap) from rfl))
    have y0 := cell_regrown ((cell_of_row _ _ 0 _ _ _ (RX.out wr BL.out)).trans (show _ = some (.string si) from rfl))
    by_cases hlt : r < n
    · have hkn : (r : Int) < (n : Int) := by omega
      have hsl : r < L.length := by have := HN.out; omega
      obtain ⟨b', off, hoa, hcell⟩ := HX.out r hsl
      have htk : L.take (r + 1) = L.take r ++ [L[r]] := List.take_succ_eq_append_getElem hsl
      have hat : ∀ b, Op.bytesLess L[r].id.toList si.toList = b → ∀ h : r < L.length, Op.bytesLess L[r].id.toList si.toList = b := fun b hb h => hb
      have hup : Op.bytesLess L[r].id.toList si.toList = true → ∀ j (h : j < L.length), j < r + 1 → Op.bytesLess L[j].id.toList si.toList = true := fun hb j hj h1 => by
        by_cases e : j = r
        · subst e; exact hb
        · exact LS.out j hj (by omega)
      obtain ⟨x, hxx⟩ : ∃ x, x = L[r] := ⟨_, rfl⟩
      rw [← hxx] at hcell htk hat hup
      have HXR := Lib.hid hxx
      have HAT := Lib.hid hat
      have HUP := Lib.hid hup
      have hc0 := hcell 0 _ rfl
      have hlc := lt_of_cellR hc0
      have xc : ∀ V, Below wr.heap.size wr V → ∀ j u, (encS x)[j]? = some u → V.cell? ⟨b', off + r * 3 + j, none⟩ = some u := fun V hV j u hu => ((stepR BL.out hV).cell (p := ⟨b', off + r * 3 + j, none⟩) hlc).trans (hcell j u hu)
      have hln : (L.take r).length = r := by rw [List.length_take]; omega
      obtain ⟨M, hM⟩ : ∃ M, M = L.take r := ⟨_, rfl⟩
      obtain ⟨xi, xv, xd⟩ := x
      have x0 := cell_regrown (xc wr (Below.refl _ _) 0 _ rfl)
      rw [Nat.add_zero] at x0
      have XC := Lib.hid xc
      have HTK := Lib.hid htk
      have HMM := Lib.hid hM
      have HLN := Lib.hid hln
      subst hoa
      clear hcell hc0 hxx xc htk hat hup hlc hM hln
      simp only at HAT HUP
      cases hless : Op.bytesLess xi.toList si.toList with
      | true =>
        have HUP2 := Lib.hid (HUP.out hless)
        go_wp2_with fail
        refine Loose.wp_region_quiet_fast (by kernel_rfl) (by kernel_rfl) ?_
        (try simp only [List.append_eq, List.cons_append, List.nil_append])
        repeat (go_big_quiet_step (fail))
        refine wpQuiet_nil ?_
        intro _ hw'
        obtain ⟨⟨dq, osq⟩, hw''⟩ := hw'
        subst hw''
        clear x0 y0 k2 hless
        have bQ := below_regrown wr dq osq
        obtain ⟨V, hV⟩ : ∃ V, V = Go.Sort.grow (Go.redrawn wr dq) osq := ⟨_, rfl⟩
        rw [← hV] at bQ
        rw [← hV]
        have c2 := (cell_of_row _ _ 2 _ _ _ (RW.out V (stepR BL.out bQ))).trans (show _ = some (.slice (some ⟨b', off, none⟩) n cap) from rfl)
        have x0 := XC.out V bQ 0 _ rfl
        have x1 := XC.out V bQ 1 _ rfl
        have x2 := XC.out V bQ 2 _ rfl
        rw [Nat.add_zero] at x0
        have BLV := Lib.hid (stepR BL.out bQ)
        have OWV := Lib.hid (OWN.out.kept (grown_belowR bQ) (apartR (by simp)))
        rw [← HMM.out] at OWV
        have hlm : M.length ≤ r := by rw [HMM.out, HLN.out]; exact Nat.le_refl r
        clear bQ hV
        obtain ⟨ii, zz, i1, i2, i3, i4, i5⟩ := ses2_info
        have I1 := Lib.hid i1
        have I2 := Lib.hid i2
        have I3 := Lib.hid i3
        have I4 := Lib.hid i4
        have I5 := Lib.hid i5
        have hnw := heap_alloc_new V (.cells #[.string xi, .string xv, .int .u64 (xd : Int)] 79)
        have HNW := Lib.hid hnw
        have HS1 := Lib.hid (alloc_sizeR V (.cells #[.string xi, .string xv, .int .u64 (xd : Int)] 79))
        have HBL := Lib.hid BLV.out
        clear i1 i2 i3 i4 i5 hnw
        go_wp2_with (at_builtin; go_loud (refine wpList_append_lies _ rfl _ _ 27 rfl W0.heap.size 79 ii zz 3 40 Try.underlying27 I1.out I2.out I3.out I4.out I5.out (by decide) lv M.length (M.flatMap encS) rfl ?h0a ⟨V.heap.size, 0, none⟩ 1 1 [.string xi, .string xv, .int .u64 (xd : Int)] rfl rfl ?h1a ?h2a ?h3a ?h4a ?h5a ?h6a _ rfl ?_))
        case h0a => exact (OWV.out).alloc _
        try (case h1a => exact World.news_of_block HNW.out)
        case h2a => simp [Value.oneCell']
        try (case h3a => decide)
        case h4a => simp only [maxLen]; omega
        case h5a => omega
        case h6a => have := HBL.out.size; have := HS1.out; omega
        intro ga capa w5 hown5 hg hw hlt5
        have hbw : Below W0.heap.size W0 w5 := HBL.out.trans (below_grownR ⟨hg.os, hg.tape, hg.output, by have := hg.size; rw [HS1.out] at this; omega, fun k hk hn => (hg.block k (by rw [HS1.out]; omega) hn).trans ((Below.refl V.heap.size V).alloc (Nat.le_refl _) (.cells #[.string xi, .string xv, .int .u64 (xd : Int)] 79) |>.block k hk)⟩ (fun k hk => (own_geR (OWV.out) k hk).1) HBL.out.size)
        have hown6 : OwnL W0.heap.size 79 3 encS w5 (.slice (some ⟨ga, 0, none⟩) (M.length + 1) capa) (M ++ [⟨xi, xv, xd⟩]) := by
          show w5.ownsRow _ _ _ _ (M ++ [_]).length ((M ++ [_]).flatMap encS)
          rw [flat_snoc, List.length_append]
          exact hown5
        have OWN5 := Lib.hid hown6
        have BW5 := Lib.hid hbw
        clear hown6 hbw hown5 hg hw hlt5
        clear c2 x0 x1 x2 hlm
        go_wp2_with fail
        go_roundw
        case rel =>
          have e := HTK.out
          rw [← HMM.out] at e
          exact ⟨r + 1, _, by omega, by go_num, rfl, by rw [e]; exact OWN5.out, HUP2.out, BW5.out⟩
        case measure => simp [intOf]; omega
      | false =>
        have STOP : Hid (∀ h : r < L.length, Op.bytesLess L[r].id.toList si.toList = false) := Lib.hid (HAT.out false hless)
        clear HTK
        go_wp2_with fail
        refine Loose.wp_region_quiet_fast (by kernel_rfl) (by kernel_rfl) ?_
        (try simp only [List.append_eq, List.cons_append, List.nil_append])
        repeat (go_big_quiet_step (fail))
        refine wpQuiet_nil ?_
        intro _ hw'
        obtain ⟨⟨dq, osq⟩, hw''⟩ := hw'
        subst hw''
        clear x0 y0 k2 hless
        have bQ := below_regrown wr dq osq
        obtain ⟨V, hV⟩ : ∃ V, V = Go.Sort.grow (Go.redrawn wr dq) osq := ⟨_, rfl⟩
        rw [← hV] at bQ
        rw [← hV]
        have BLV := Lib.hid (stepR BL.out bQ)
        have owv := OWN.out.kept (grown_belowR bQ) (apartR (by simp))
        have hl0 := own_lr (k := 3) (enc := encS) (fun _ => rfl) owv
        obtain ⟨ol, cl, hlv⟩ := hl0.form
        have hlr : (L.take r).length = r := by rw [List.length_take]; have := HN.out; omega
        rw [hlr] at hlv
        obtain ⟨M2, hM2⟩ : ∃ M, M = L.take r := ⟨_, rfl⟩
        rw [← hM2] at owv
        have hlm : M2.length ≤ r := by rw [hM2, hlr]; exact Nat.le_refl r
        subst hlv
        have hlen : M2.length = r := by rw [hM2, hlr]
        have OWV : Hid (OwnL W0.heap.size 79 3 encS V (.slice ol r cl) M2) := Lib.hid owv
        have HM2 := Lib.hid hM2
        have HLEN := Lib.hid hlen
        have y0 := (cell_of_row _ _ 0 _ _ _ (RX.out V BLV.out)).trans (show _ = some (.string si) from rfl)
        have y1 := (cell_of_row _ _ 1 _ _ _ (RX.out V BLV.out)).trans (show _ = some (.string sv) from rfl)
        have y2 := (cell_of_row _ _ 2 _ _ _ (RX.out V BLV.out)).trans (show _ = some (.int .u64 (sd : Int)) from rfl)
        have hrn : r ≤ n := hr
        clear bQ hV hl0 hlr hM2 owv hlen OWN
        obtain ⟨ii, zz, i1, i2, i3, i4, i5⟩ := ses2_info
        have I1 := Lib.hid i1
        have I2 := Lib.hid i2
        have I3 := Lib.hid i3
        have I4 := Lib.hid i4
        have I5 := Lib.hid i5
        have hnw := heap_alloc_new V (.cells #[.string si, .string sv, .int .u64 (sd : Int)] 79)
        have HNW := Lib.hid hnw
        have HS1 := Lib.hid (alloc_sizeR V (.cells #[.string si, .string sv, .int .u64 (sd : Int)] 79))
        have HBL := Lib.hid BLV.out
        clear i1 i2 i3 i4 i5 hnw
        go_wp2_with (at_builtin; go_loud (refine wpList_append_lies _ rfl _ _ 27 rfl W0.heap.size 79 ii zz 3 40 Try.underlying27 I1.out I2.out I3.out I4.out I5.out (by decide) (.slice ol r cl) M2.length (M2.flatMap encS) rfl ?h0b ⟨V.heap.size, 0, none⟩ 1 1 [.string si, .string sv, .int .u64 (sd : Int)] rfl rfl ?h1b ?h2b ?h3b ?h4b ?h5b ?h6b _ rfl ?_))
        case h0b => exact (OWV.out).alloc _
        try (case h1b => exact World.news_of_block HNW.out)
        case h2b => simp [Value.oneCell']
        try (case h3b => decide)
        case h4b => simp only [maxLen]; omega
        case h5b => omega
        case h6b => have := HBL.out.size; have := HS1.out; omega
        intro gb capb w6 hown5 hg hw hlt5
        have hbw : Below W0.heap.size W0 w6 := HBL.out.trans (below_grownR ⟨hg.os, hg.tape, hg.output, by have := hg.size; rw [HS1.out] at this; omega, fun k hk hn => (hg.block k (by rw [HS1.out]; omega) hn).trans ((Below.refl V.heap.size V).alloc (Nat.le_refl _) (.cells #[.string si, .string sv, .int .u64 (sd : Int)] 79) |>.block k hk)⟩ (fun k hk => (own_geR (OWV.out) k hk).1) HBL.out.size)
        have hown6 : OwnL W0.heap.size 79 3 encS w6 (.slice (some ⟨gb, 0, none⟩) (M2.length + 1) capb) (M2 ++ [⟨si, sv, sd⟩]) := by
          show w6.ownsRow _ _ _ _ (M2 ++ [_]).length ((M2 ++ [_]).flatMap encS)
          rw [flat_snoc, List.length_append]
          exact hown5
        have OWN6 := Lib.hid hown6
        have BW6 := Lib.hid hbw
        clear hown6 hbw hown5 hg hw hlt5
        clear y0 y1 y2
        have own7 : OwnL W0.heap.size 79 3 encS w6 (.slice (some ⟨gb, 0, none⟩) (M2.length + 1) capb) (L.take r ++ [⟨si, sv, sd⟩]) := by
          have h := OWN6.out
          have e : M2 ++ [(⟨si, sv, sd⟩ : Ses)] = L.take r ++ [⟨si, sv, sd⟩] := by rw [HM2.out]
          rw [e] at h
          exact h
        have OWN7 := Lib.hid own7
        clear own7 OWN6
        go_wp2_with fail
        have RN := Lib.hid hrn
        have pf : ∀ x : Ses, (fun x : Ses => !(x.id.toList == si.toList)) x = !(x.id.toList == si.toList) := fun _ => rfl
        obtain ⟨pp, hpp⟩ : ∃ g : Ses → Bool, g = fun x => !(x.id.toList == si.toList) := ⟨_, rfl⟩
        have HPF := Lib.hid hpp
        have e0 : L.take r ++ [⟨si, sv, sd⟩] ++ ((L.drop r).take (r - r)).filter pp = L.take r ++ [⟨si, sv, sd⟩] := by rw [Nat.sub_self, List.take_zero, List.filter_nil, List.append_nil]
        have own8 : OwnL W0.heap.size 79 3 encS w6 (.slice (some ⟨gb, 0, none⟩) (M2.length + 1) capb) (L.take r ++ [⟨si, sv, sd⟩] ++ ((L.drop r).take (r - r)).filter pp) := by rw [e0]; exact OWN7.out
        have OWN8 := Lib.hid own8
        clear hrn pf hpp e0 own8 hlm
        go_loopw [4, 7] (fun o i wz => ∃ (t : Nat) (lu : Value), r ≤ t ∧ t ≤ n ∧ i = .int .i64 t ∧ lu = o ∧ OwnL W0.heap.size 79 3 encS wz lu (L.take r ++ [⟨si, sv, sd⟩] ++ ((L.drop r).take (t - r)).filter pp) ∧ Below W0.heap.size W0 wz) (fun _ i _ => n - (intOf i).toNat)
        case atStart => exact ⟨r, _, Nat.le_refl r, RN.out, rfl, rfl, OWN8.out, BW6.out⟩
        case round =>
          obtain ⟨t, lu, hrt, htn, rfl, rfl, hown, hbl⟩ := hrel
          have OWZ := Lib.hid hown
          have BLZ := Lib.hid hbl
          clear hown hbl
          have c2r := (cell_of_row _ _ 2 _ _ _ (RW.out wr BLZ.out)).trans (show _ = some (.slice _ n cap) from rfl)
          have k2 := cell_regrown ((cell_of_row _ _ 2 _ _ _ (RW.out wr BLZ.out)).trans (show _ = some (.slice _ n cap) from rfl))
          have y0 := cell_regrown ((cell_of_row _ _ 0 _ _ _ (RX.out wr BLZ.out)).trans (show _ = some (.string si) from rfl))
          by_cases hlt2 : t < n
          · have hkt : (t : Int) < (n : Int) := by omega
            have htl : t < L.length := by have := HN.out; omega
            obtain ⟨b2, off2, hoa, hcell⟩ := HX.out t htl
            have hdl : t - r < (L.drop r).length := by rw [List.length_drop]; omega
            have hfs := filter_snoc pp (L.drop r) (t - r) hdl
            have hdx : (L.drop r)[t - r] = L[t] := by
              rw [List.getElem_drop]
              congr 1
              omega
            rw [hdx, show t - r + 1 = t + 1 - r from by omega] at hfs
            have hln : (((L.drop r).take (t - r)).filter pp).length ≤ t := Nat.le_trans (List.length_filter_le _ _) (by rw [List.length_take, List.length_drop]; omega)
            obtain ⟨x, hxx⟩ : ∃ x, x = L[t] := ⟨_, rfl⟩
            rw [← hxx] at hcell hfs
            have hc0 := hcell 0 _ rfl
            have hlc := lt_of_cellR hc0
            have xc : ∀ V, Below wr.heap.size wr V → ∀ j u, (encS x)[j]? = some u → V.cell? ⟨b2, off2 + t * 3 + j, none⟩ = some u := fun V hV j u hu => ((stepR BLZ.out hV).cell (p := ⟨b2, off2 + t * 3 + j, none⟩) hlc).trans (hcell j u hu)
            have hln2 : (L.take r ++ [(⟨si, sv, sd⟩ : Ses)] ++ ((L.drop r).take (t - r)).filter pp).length ≤ n + n + 1 := by
              rw [List.length_append, List.length_append, List.length_take]; simp only [List.length_cons, List.length_nil]; omega
            obtain ⟨M3, hM3⟩ : ∃ M, M = L.take r ++ [(⟨si, sv, sd⟩ : Ses)] ++ ((L.drop r).take (t - r)).filter pp := ⟨_, rfl⟩
            rw [← hM3] at OWZ hln2
            obtain ⟨xi, xv, xd⟩ := x
            have x0 := cell_regrown (xc wr (Below.refl _ _) 0 _ rfl)
            rw [Nat.add_zero] at x0
            have HFS := Lib.hid hfs
            have HM3 := Lib.hid hM3
            have XCZ := Lib.hid xc
            have hpv : pp ⟨xi, xv, xd⟩ = !(xi.toList == si.toList) := by rw [HPF.out]
            have HPV := Lib.hid hpv
            first | subst hoa | (obtain ⟨f1, f2⟩ : b2 = b' ∧ off2 = off := (by injection hoa with h; injection h with h1 h2; exact ⟨h1.symm, h2.symm⟩); clear hoa; subst f1 f2)
            clear hcell hc0 hxx xc hfs hlc hM3 hdx hdl hpv hln
            rcases beqQ xi si with ⟨q1, q2⟩ | ⟨q1, q2⟩
            · have q3 : (xi.toList != si.toList) = false := by rw [bne, q1]; rfl
              have NXT : Hid (L.take r ++ [(⟨si, sv, sd⟩ : Ses)] ++ ((L.drop r).take (t + 1 - r)).filter pp = M3) := Lib.hid (by rw [HFS.out, HPV.out, q1, HM3.out]; simp)
              clear q2
              go_wp2_with fail
              refine Loose.wp_region_quiet_fast (by kernel_rfl) (by kernel_rfl) ?_
              (try simp only [List.append_eq, List.cons_append, List.nil_append])
              repeat (go_big_quiet_step (fail))
              refine wpQuiet_nil ?_
              intro _ hw'
              obtain ⟨⟨dq, osq⟩, hw''⟩ := hw'
              subst hw''
              clear x0 y0 k2 q1 q3 c2r
              have bQ := below_regrown wr dq osq
              obtain ⟨V2, hV⟩ : ∃ V, V = Go.Sort.grow (Go.redrawn wr dq) osq := ⟨_, rfl⟩
              rw [← hV] at bQ
              rw [← hV]
              have BLV2 := Lib.hid (stepR BLZ.out bQ)
              have OWV2 := Lib.hid (OWZ.out.kept (grown_belowR bQ) (apartR (by simp)))
              clear bQ hV
              go_wp2_with fail
              go_roundw
              case rel => exact ⟨t + 1, _, by omega, by omega, by go_num, rfl, by rw [NXT.out]; exact OWV2.out, BLV2.out⟩
              case measure => simp [intOf]; omega
            · have q3 : (xi.toList != si.toList) = true := by rw [bne, q1]; rfl
              have NXT : Hid (L.take r ++ [(⟨si, sv, sd⟩ : Ses)] ++ ((L.drop r).take (t + 1 - r)).filter pp = M3 ++ [⟨xi, xv, xd⟩]) := Lib.hid (by rw [HFS.out, HPV.out, q1, HM3.out]; simp)
              clear q2
              go_wp2_with fail
              refine Loose.wp_region_quiet_fast (by kernel_rfl) (by kernel_rfl) ?_
              (try simp only [List.append_eq, List.cons_append, List.nil_append])
              repeat (go_big_quiet_step (fail))
              refine wpQuiet_nil ?_
              intro _ hw'
              obtain ⟨⟨dq, osq⟩, hw''⟩ := hw'
              subst hw''
              clear x0 y0 k2 q1 q3 c2r
              have bQ := below_regrown wr dq osq
              obtain ⟨V2, hV⟩ : ∃ V, V = Go.Sort.grow (Go.redrawn wr dq) osq := ⟨_, rfl⟩
              rw [← hV] at bQ
              rw [← hV]
              have c2 := (cell_of_row _ _ 2 _ _ _ (RW.out V2 (stepR BLZ.out bQ))).trans (show _ = some (.slice (some ⟨b2, off2, none⟩) n cap) from rfl)
              have x0 := XCZ.out V2 bQ 0 _ rfl
              have x1 := XCZ.out V2 bQ 1 _ rfl
              have x2 := XCZ.out V2 bQ 2 _ rfl
              rw [Nat.add_zero] at x0
              have BLV2 := Lib.hid (stepR BLZ.out bQ)
              have OWV2 := Lib.hid (OWZ.out.kept (grown_belowR bQ) (apartR (by simp)))
              clear bQ hV
              obtain ⟨ii, zz, i1, i2, i3, i4, i5⟩ := ses2_info
              have I1 := Lib.hid i1
              have I2 := Lib.hid i2
              have I3 := Lib.hid i3
              have I4 := Lib.hid i4
              have I5 := Lib.hid i5
              have hnw := heap_alloc_new V2 (.cells #[.string xi, .string xv, .int .u64 (xd : Int)] 79)
              have HNW := Lib.hid hnw
              have HS1 := Lib.hid (alloc_sizeR V2 (.cells #[.string xi, .string xv, .int .u64 (xd : Int)] 79))
              have HBL := Lib.hid BLV2.out
              clear i1 i2 i3 i4 i5 hnw
              go_wp2_with (at_builtin; go_loud (refine wpList_append_lies _ rfl _ _ 27 rfl W0.heap.size 79 ii zz 3 40 Try.underlying27 I1.out I2.out I3.out I4.out I5.out (by decide) lu M3.length (M3.flatMap encS) rfl ?h0c ⟨V2.heap.size, 0, none⟩ 1 1 [.string xi, .string xv, .int .u64 (xd : Int)] rfl rfl ?h1c ?h2c ?h3c ?h4c ?h5c ?h6c _ rfl ?_))
              case h0c => exact (OWV2.out).alloc _
              try (case h1c => exact World.news_of_block HNW.out)
              case h2c => simp [Value.oneCell']
              try (case h3c => decide)
              case h4c => simp only [maxLen]; omega
              case h5c => omega
              case h6c => have := HBL.out.size; have := HS1.out; omega
              intro gc capc w9 hown5 hg hw hlt5
              have hbw : Below W0.heap.size W0 w9 := HBL.out.trans (below_grownR ⟨hg.os, hg.tape, hg.output, by have := hg.size; rw [HS1.out] at this; omega, fun k hk hn => (hg.block k (by rw [HS1.out]; omega) hn).trans ((Below.refl V2.heap.size V2).alloc (Nat.le_refl _) (.cells #[.string xi, .string xv, .int .u64 (xd : Int)] 79) |>.block k hk)⟩ (fun k hk => (own_geR (OWV2.out) k hk).1) HBL.out.size)
              have hown6 : OwnL W0.heap.size 79 3 encS w9 (.slice (some ⟨gc, 0, none⟩) (M3.length + 1) capc) (M3 ++ [⟨xi, xv, xd⟩]) := by
                show w9.ownsRow _ _ _ _ (M3 ++ [_]).length ((M3 ++ [_]).flatMap encS)
                rw [flat_snoc, List.length_append]
                exact hown5
              have OWN9 := Lib.hid hown6
              have BW9 := Lib.hid hbw
              clear hown6 hbw hown5 hg hw hlt5
              clear c2 x0 x1 x2
              go_wp2_with fail
              go_roundw
              case rel => exact ⟨t + 1, _, by omega, by omega, by go_num, rfl, by rw [NXT.out]; exact OWN9.out, BW9.out⟩
              case measure => simp [intOf]; omega
          · have hkt : ¬ (t : Int) < (n : Int) := by omega
            have htk : (L.drop r).take (t - r) = L.drop r := List.take_of_length_le (by rw [List.length_drop]; have := HN.out; omega)
            rw [htk] at OWZ
            have hl2 := own_lr (k := 3) (enc := encS) (fun _ => rfl) OWZ.out
            have fz := frozen_of_row _ _ 2 _ _ (RW.out wr BLZ.out)
            obtain ⟨o5, c5, hlv⟩ := hl2.form
            obtain ⟨M5, hM5⟩ : ∃ M, M = L.take r ++ [(⟨si, sv, sd⟩ : Ses)] ++ (L.drop r).filter pp := ⟨_, rfl⟩
            rw [← hM5] at hlv hl2
            obtain ⟨nl, hnl⟩ : ∃ m, m = M5.length := ⟨_, rfl⟩
            rw [← hnl] at hlv
            subst hlv
            have SET := Lib.hid (RPl.set (RW.out wr BLZ.out) hl2)
            have hln5 : M5.length ≤ 1000000 := by
              have h1 : ((L.drop r).filter pp).length ≤ (L.drop r).length := List.length_filter_le _ _
              rw [List.length_drop] at h1
              rw [hM5, List.length_append, List.length_append, List.length_take]; simp only [List.length_cons, List.length_nil]; have := HN.out; omega
            have DRP := Lib.hid (rdrop_val _ P now q M5 SET.out hln5)
            have MPE : Hid (Mp P P W0 (wr.setCell ⟨P, 2, none⟩ (.slice o5 nl c5))) := Lib.hid ((Mp.mk BLZ.out.os BLZ.out.tape BLZ.out.output BLZ.out.size (fun i hi _ _ => BLZ.out.block i hi)).self)
            have PUT : Hid (PutR now ⟨si, sv, sd⟩ L (M5.filter (fun x => decide (now < x.dl)))) := Lib.hid ⟨r, by have := HN.out; have := RN.out; omega, LS.out, STOP.out, by rw [hM5, HPF.out]⟩
            clear htk hl2 hM5 hnl hln5
            go_wp2_with fail
            refine (DRP.out).mono ?_; rintro e wf ⟨rfl, rp, mp⟩
            have MPF := Lib.hid ((Mp.of_below (p := P) (b := P) BW0.out).trans (MPE.out.trans mp))
            have RPF := Lib.hid rp
            clear rp mp
            go_wp2_with fail
            refine bodyPost_end (v := .tuple #[]) (by rw [results_none rfl]) rfl ⟨rfl, ⟨_, PUT.out, RPF.out⟩, MPF.out⟩
    · have hkn : ¬ (r : Int) < (n : Int) := by omega
      have STOP : Hid (∀ h : r < L.length, Op.bytesLess L[r].id.toList si.toList = false) := Lib.hid (fun h => absurd h (by have := HN.out; omega))
      go_wp2_with fail
      refine Loose.wp_region_quiet_fast (by kernel_rfl) (by kernel_rfl) ?_
      (try simp only [List.append_eq, List.cons_append, List.nil_append])
      repeat (go_big_quiet_step (fail))
      refine wpQuiet_nil ?_
      intro _ hw'
      obtain ⟨⟨dq, osq⟩, hw''⟩ := hw'
      subst hw''
      clear y0 k2
      have bQ := below_regrown wr dq osq
      obtain ⟨V, hV⟩ : ∃ V, V = Go.Sort.grow (Go.redrawn wr dq) osq := ⟨_, rfl⟩
      rw [← hV] at bQ
      rw [← hV]
      have BLV := Lib.hid (stepR BL.out bQ)
      have owv := OWN.out.kept (grown_belowR bQ) (apartR (by simp))
      have hl0 := own_lr (k := 3) (enc := encS) (fun _ => rfl) owv
      obtain ⟨ol, cl, hlv⟩ := hl0.form
      have hlr : (L.take r).length = r := by rw [List.length_take]; have := HN.out; omega
      rw [hlr] at hlv
      obtain ⟨M2, hM2⟩ : ∃ M, M = L.take r := ⟨_, rfl⟩
      rw [← hM2] at owv
      have hlm : M2.length ≤ r := by rw [hM2, hlr]; exact Nat.le_refl r
      subst hlv
      have hlen : M2.length = r := by rw [hM2, hlr]
      have OWV : Hid (OwnL W0.heap.size 79 3 encS V (.slice ol r cl) M2) := Lib.hid owv
      have HM2 := Lib.hid hM2
      have HLEN := Lib.hid hlen
      have y0 := (cell_of_row _ _ 0 _ _ _ (RX.out V BLV.out)).trans (show _ = some (.string si) from rfl)
      have y1 := (cell_of_row _ _ 1 _ _ _ (RX.out V BLV.out)).trans (show _ = some (.string sv) from rfl)
      have y2 := (cell_of_row _ _ 2 _ _ _ (RX.out V BLV.out)).trans (show _ = some (.int .u64 (sd : Int)) from rfl)
      have hrn : r ≤ n := hr
      clear bQ hV hl0 hlr hM2 owv hlen OWN
      obtain ⟨ii, zz, i1, i2, i3, i4, i5⟩ := ses2_info
      have I1 := Lib.hid i1
      have I2 := Lib.hid i2
      have I3 := Lib.hid i3
      have I4 := Lib.hid i4
      have I5 := Lib.hid i5
      have hnw := heap_alloc_new V (.cells #[.string si, .string sv, .int .u64 (sd : Int)] 79)
      have HNW := Lib.hid hnw
      have HS1 := Lib.hid (alloc_sizeR V (.cells #[.string si, .string sv, .int .u64 (sd : Int)] 79))
      have HBL := Lib.hid BLV.out
      clear i1 i2 i3 i4 i5 hnw
      go_wp2_with (at_builtin; go_loud (refine wpList_append_lies _ rfl _ _ 27 rfl W0.heap.size 79 ii zz 3 40 Try.underlying27 I1.out I2.out I3.out I4.out I5.out (by decide) (.slice ol r cl) M2.length (M2.flatMap encS) rfl ?h0b ⟨V.heap.size, 0, none⟩ 1 1 [.string si, .string sv, .int .u64 (sd : Int)] rfl rfl ?h1b ?h2b ?h3b ?h4b ?h5b ?h6b _ rfl ?_))
      case h0b => exact (OWV.out).alloc _
      try (case h1b => exact World.news_of_block HNW.out)
      case h2b => simp [Value.oneCell']
      try (case h3b => decide)
      case h4b => simp only [maxLen]; omega
      case h5b => omega
      case h6b => have := HBL.out.size; have := HS1.out; omega
      intro gb capb w6 hown5 hg hw hlt5
      have hbw : Below W0.heap.size W0 w6 := HBL.out.trans (below_grownR ⟨hg.os, hg.tape, hg.output, by have := hg.size; rw [HS1.out] at this; omega, fun k hk hn => (hg.block k (by rw [HS1.out]; omega) hn).trans ((Below.refl V.heap.size V).alloc (Nat.le_refl _) (.cells #[.string si, .string sv, .int .u64 (sd : Int)] 79) |>.block k hk)⟩ (fun k hk => (own_geR (OWV.out) k hk).1) HBL.out.size)
      have hown6 : OwnL W0.heap.size 79 3 encS w6 (.slice (some ⟨gb, 0, none⟩) (M2.length + 1) capb) (M2 ++ [⟨si, sv, sd⟩]) := by
        show w6.ownsRow _ _ _ _ (M2 ++ [_]).length ((M2 ++ [_]).flatMap encS)
        rw [flat_snoc, List.length_append]
        exact hown5
      have OWN6 := Lib.hid hown6
      have BW6 := Lib.hid hbw
      clear hown6 hbw hown5 hg hw hlt5
      clear y0 y1 y2
      have own7 : OwnL W0.heap.size 79 3 encS w6 (.slice (some ⟨gb, 0, none⟩) (M2.length + 1) capb) (L.take r ++ [⟨si, sv, sd⟩]) := by
        have h := OWN6.out
        have e : M2 ++ [(⟨si, sv, sd⟩ : Ses)] = L.take r ++ [⟨si, sv, sd⟩] := by rw [HM2.out]
        rw [e] at h
        exact h
      have OWN7 := Lib.hid own7
      clear own7 OWN6
      go_wp2_with fail
      have RN := Lib.hid hrn
      have pf : ∀ x : Ses, (fun x : Ses => !(x.id.toList == si.toList)) x = !(x.id.toList == si.toList) := fun _ => rfl
      obtain ⟨pp, hpp⟩ : ∃ g : Ses → Bool, g = fun x => !(x.id.toList == si.toList) := ⟨_, rfl⟩
      have HPF := Lib.hid hpp
      have e0 : L.take r ++ [⟨si, sv, sd⟩] ++ ((L.drop r).take (r - r)).filter pp = L.take r ++ [⟨si, sv, sd⟩] := by rw [Nat.sub_self, List.take_zero, List.filter_nil, List.append_nil]
      have own8 : OwnL W0.heap.size 79 3 encS w6 (.slice (some ⟨gb, 0, none⟩) (M2.length + 1) capb) (L.take r ++ [⟨si, sv, sd⟩] ++ ((L.drop r).take (r - r)).filter pp) := by rw [e0]; exact OWN7.out
      have OWN8 := Lib.hid own8
      clear hrn pf hpp e0 own8 hlm
      go_loopw [4, 7] (fun o i wz => ∃ (t : Nat) (lu : Value), r ≤ t ∧ t ≤ n ∧ i = .int .i64 t ∧ lu = o ∧ OwnL W0.heap.size 79 3 encS wz lu (L.take r ++ [⟨si, sv, sd⟩] ++ ((L.drop r).take (t - r)).filter pp) ∧ Below W0.heap.size W0 wz) (fun _ i _ => n - (intOf i).toNat)
      case atStart => exact ⟨r, _, Nat.le_refl r, RN.out, rfl, rfl, OWN8.out, BW6.out⟩
      case round =>
        obtain ⟨t, lu, hrt, htn, rfl, rfl, hown, hbl⟩ := hrel
        have OWZ := Lib.hid hown
        have BLZ := Lib.hid hbl
        clear hown hbl
        have c2r := (cell_of_row _ _ 2 _ _ _ (RW.out wr BLZ.out)).trans (show _ = some (.slice _ n cap) from rfl)
        have k2 := cell_regrown ((cell_of_row _ _ 2 _ _ _ (RW.out wr BLZ.out)).trans (show _ = some (.slice _ n cap) from rfl))
        have y0 := cell_regrown ((cell_of_row _ _ 0 _ _ _ (RX.out wr BLZ.out)).trans (show _ = some (.string si) from rfl))
        by_cases hlt2 : t < n
        · exact absurd hlt2 (by omega)
        · have hkt : ¬ (t : Int) < (n : Int) := by omega
          have htk : (L.drop r).take (t - r) = L.drop r := List.take_of_length_le (by rw [List.length_drop]; have := HN.out; omega)
          rw [htk] at OWZ
          have hl2 := own_lr (k := 3) (enc := encS) (fun _ => rfl) OWZ.out
          have fz := frozen_of_row _ _ 2 _ _ (RW.out wr BLZ.out)
          obtain ⟨o5, c5, hlv⟩ := hl2.form
          obtain ⟨M5, hM5⟩ : ∃ M, M = L.take r ++ [(⟨si, sv, sd⟩ : Ses)] ++ (L.drop r).filter pp := ⟨_, rfl⟩
          rw [← hM5] at hlv hl2
          obtain ⟨nl, hnl⟩ : ∃ m, m = M5.length := ⟨_, rfl⟩
          rw [← hnl] at hlv
          subst hlv
          have SET := Lib.hid (RPl.set (RW.out wr BLZ.out) hl2)
          have hln5 : M5.length ≤ 1000000 := by
            have h1 : ((L.drop r).filter pp).length ≤ (L.drop r).length := List.length_filter_le _ _
            rw [List.length_drop] at h1
            rw [hM5, List.length_append, List.length_append, List.length_take]; simp only [List.length_cons, List.length_nil]; have := HN.out; omega
          have DRP := Lib.hid (rdrop_val _ P now q M5 SET.out hln5)
          have MPE : Hid (Mp P P W0 (wr.setCell ⟨P, 2, none⟩ (.slice o5 nl c5))) := Lib.hid ((Mp.mk BLZ.out.os BLZ.out.tape BLZ.out.output BLZ.out.size (fun i hi _ _ => BLZ.out.block i hi)).self)
          have PUT : Hid (PutR now ⟨si, sv, sd⟩ L (M5.filter (fun x => decide (now < x.dl)))) := Lib.hid ⟨r, by have := HN.out; have := RN.out; omega, LS.out, STOP.out, by rw [hM5, HPF.out]⟩
          clear htk hl2 hM5 hnl hln5
          go_wp2_with fail
          refine (DRP.out).mono ?_; rintro e wf ⟨rfl, rp, mp⟩
          have MPF := Lib.hid ((Mp.of_below (p := P) (b := P) BW0.out).trans (MPE.out.trans mp))
          have RPF := Lib.hid rp
          clear rp mp
          go_wp2_with fail
          refine bodyPost_end (v := .tuple #[]) (by rw [results_none rfl]) rfl ⟨rfl, ⟨_, PUT.out, RPF.out⟩, MPF.out⟩
end Go.Proofs.Ytmbidannodelfaa.G
