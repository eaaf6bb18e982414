/- IndexGone: whatever is handed in, the law answers true. No condition. -/
import Derived.Test.YthpompgcnemanaaIo
import Derived.Test.YthpompgcnemanaaGFast
import Derived.BigQuiet
import Derived.Test.YthpompgcnemanaaIu
import Derived.Deep.AppendLies
import Derived.Deep.WholeRow
namespace Go.Proofs.Ythpompgcnemanaa.L
open Go.RowKit Go.Maps Go.Proofs.Ythpompgcnemanaa.G Go.Proofs.Ythpompgcnemanaa.WordPlain Go.Proofs.Ythpompgcnemanaa.Loose
set_option linter.unusedVariables false
set_option linter.unusedSimpArgs false

def encZ (z : Int) : List Value := [.int .i64 z]
theorem int_info : ∃ i z, Try.prog.info? 3 = some i ∧ i.zero = some z ∧ i.size = 1 ∧ i.bytes = 8 ∧ z.cells.size = 1 := by
  have h : (Try.prog.info? 3).map (fun i => (i.zero.map (·.cells.size), i.size, i.bytes)) = some (some 1, 1, 8) := by kernel_rfl
  cases hq : Try.prog.info? 3 with
  | none => rw [hq] at h; cases h
  | some i =>
    rw [hq] at h; simp at h
    obtain ⟨⟨z, hz, hz2⟩, h3, h4⟩ := h
    exact ⟨i, z, rfl, hz, h3, h4, hz2⟩
/-- what a list of numbers that is owned holds -/
theorem own_ints {base : Nat} {w : World} {v : Value} {l : List Int} (h : OwnL base 3 1 encZ w v l) : ∃ oa cap, v = .slice oa l.length cap ∧ ∀ i (hi : i < l.length), ∃ b, oa = some ⟨b, 0, none⟩ ∧ base ≤ b ∧ w.cell? ⟨b, i, none⟩ = some (.int .i64 l[i]) := by
  have h' := h
  obtain ⟨hl, h2⟩ := h'
  rcases h2 with ⟨rfl, h0⟩ | ⟨g, cap, cur, rfl, hb, hg, hn, _, _, _⟩
  · have : l = [] := List.length_eq_zero_iff.1 h0
    subst this
    exact ⟨none, 0, rfl, fun i hi => absurd hi (Nat.not_lt_zero _)⟩
  · refine ⟨_, cap, rfl, fun i hi => ⟨g, rfl, hb, ?_⟩⟩
    have := own_atR h (i * 1 + 0) _ ((flat_at 1 encZ (fun _ => rfl) l i 0 hi (by omega)).trans rfl)
    simpa using this
theorem mq_cell {p b : Nat} {w w' : World} (h : Mq p b w w') {a : Addr} {v : Value} (hv : w.cell? a = some v) (hl : a.block < w.heap.size) (hp : a.block ≠ p) (hb : a.block ≠ b) : w'.cell? a = some v := (World.cell?_of_block (w := w) (h.block a.block hl hp hb)).trans hv
set_option maxRecDepth 100000 in
set_option maxHeartbeats 16000000 in
theorem gone_main (l : List Rec) (g : Nat) (v : Value) (w : World) (hg : g < 256) (h : LR 7 encR w v l) (hl : l.length ≤ 140737488351232) :
    Calls Try.prog 8 #[v, .int .u8 (g : Int)] w fun e w' => e = .returned (.bool true) ∧ Below w.heap.size w w' := by
  obtain ⟨oa, cap, rfl, _, hx⟩ := h
  obtain ⟨n, hn⟩ : ∃ n, n = l.length := ⟨_, rfl⟩
  have fv := filled_val w (.slice oa n cap) l ⟨oa, cap, by rw [hn], by assumption, hx⟩ hl
  rw [← hn] at hl ⊢
  obtain ⟨L, hL⟩ : ∃ L, L = cutsR l 40 := ⟨_, rfl⟩
  rw [← hL] at fv
  have HLL : Hid (L.length = min 40 n) := Lib.hid (by rw [hL, hn]; unfold cutsR; rw [List.length_take, List.length_map])
  have HLA := Lib.hid (show ∀ k (h1 : k < l.length) (h2 : k < L.length), L[k] = l[k].cut from fun k h1 h2 => by subst hL; exact (cutsR_at h2).2.2 h1)
  have HLS := Lib.hid (show ∀ r ∈ L, r.id.size ≤ 80 ∧ r.va.size ≤ 80 by rw [hL]; exact cutsR_size l 40)
  have AT := Lib.hid hx
  have HN := Lib.hid hn
  have FV := Lib.hid fv
  obtain ⟨M, hM⟩ : ∃ M, M = L.length := ⟨_, rfl⟩
  have HM := Lib.hid hM
  have hM40 : M ≤ 40 := by have := HLL.out; omega
  have hMn : M ≤ n := by have := HLL.out; omega
  clear hx hn hL fv hM
  go_enter Try.func8, Try.ntmps8
  go_wp2_with fail
  refine FV.out.mono ?_; rintro e w1 ⟨⟨X, bn, bp, rfl, hix, hX, hbn, hbp⟩, hb⟩
  have BB1 := Lib.hid hb
  have LB := Lib.hid (show w.heap.size ≤ X ∧ w.heap.size ≤ bn ∧ w.heap.size ≤ bp from ⟨hX, hbn, hbp⟩)
  have qen := filQ_en (L := L) (Nat.le_refl _)
  have hthr := fun sg => thr_fil (L := L) sg L.length (Nat.le_refl _)
  have hpos := filQ_pos (L := L) (q := L.length)
  have hst := fun i e h => fil_stand (L := L) (Nat.le_refl _) (i := i) (e := e) h
  have hqs : ∀ p s, (fil L L.length).2 p = some s → s.size ≤ 140737488351232 := fun p s h => by
    obtain ⟨k, hk, _, _, _, he⟩ := (fil_q (L := L) _ (Nat.le_refl _) p s).1 h
    have := (HLS.out _ (List.getElem_mem hk)).1
    rw [he] at this
    omega
  have hns : ∀ i s, (fil L L.length).1 i = some s → 0 ≤ s.sz ∧ s.sz ≤ 4000000 := fun i s h => by
    obtain ⟨k, hk, he⟩ := (fil_n (L := L) _ (Nat.le_refl _) i).1 s h
    have hkl := hk.2.1
    have := HLS.out _ (List.getElem_mem hkl)
    rw [he]
    show 0 ≤ 31 + (L[k].id.size : Int) + (L[k].va.size : Int) ∧ 31 + (L[k].id.size : Int) + (L[k].va.size : Int) ≤ 4000000
    omega
  obtain ⟨NF, hNF⟩ : ∃ N, N = (fil L L.length).1 := ⟨_, rfl⟩
  obtain ⟨QF, hQF⟩ : ∃ N, N = (fil L L.length).2 := ⟨_, rfl⟩
  obtain ⟨QL, hQL⟩ : ∃ N, N = filQ L L.length := ⟨_, rfl⟩
  rw [← hNF, ← hQF] at hix hst
  rw [← hQF, ← hQL] at qen hthr
  rw [← hQL] at hpos
  rw [← hQF] at hqs
  rw [← hNF] at hns
  have IX1 := Lib.hid hix
  have QEN := Lib.hid qen
  have THR0 := Lib.hid hthr
  have POS := Lib.hid hpos
  have STAND := Lib.hid hst
  have QSZ := Lib.hid hqs
  have NSZ := Lib.hid hns
  clear hix hX hbn hbp hb FV qen hthr hpos hst hqs hns hNF hQF hQL
  obtain ⟨z, hz⟩ : ∃ z : Nat, z = g % 10 := ⟨_, rfl⟩
  have hz10 : z < 10 := by omega
  go_wp2_with fail
  rw [show (g : Int) % 10 = (z : Int) from by omega]
  clear hz
  have THR := Lib.hid (THR0.out (z : Int))
  have OWN0 := Lib.hid (own_new w1 3 1 encZ w1.heap.size (Nat.le_refl _))
  go_loopw [9, 7] (fun i v7 wi => ∃ (q : Nat) (E : List Int), q ≤ L.length ∧ i = .int .i64 q ∧ E.length = q ∧ (∀ k (hk : k < E.length) (hL : k < L.length), E[k] = (QL.map (othG L[k].id (z : Int))).sum) ∧ OwnL w1.heap.size 3 1 encZ wi v7 E ∧ Below w1.heap.size w1 wi) (fun i _ _ => 40 - (intOf i).toNat)
  case atStart => exact ⟨0, [], by omega, rfl, rfl, (fun k hk => absurd hk (Nat.not_lt_zero _)), OWN0.out, (Below.refl _ _).alloc (Nat.le_refl _) _⟩
  case round =>
    obtain ⟨q, E, hq, rfl, hel, hev, hown, hbl⟩ := hrel
    rename_i v7
    have HEL := Lib.hid hel
    have HEV := Lib.hid hev
    have OWN := Lib.hid hown
    have HB := Lib.hid hbl
    have hq40 : q ≤ 40 := by have := HLL.out; omega
    clear hel hev hown hbl
    by_cases hlt : q < n
    · have hkn : (q : Int) < (n : Int) := by omega
      by_cases h40 : q < 40
      · have hk40 : (q : Int) < 40 := by omega
        have hql : q < l.length := by have := HN.out; omega
        have hqL : q < L.length := by have := HLL.out; omega
        obtain ⟨b, off, hoa, hc⟩ := AT.out q hql
        have hcx := HLA.out q hql hqL
        obtain ⟨x, hx⟩ : ∃ r, r = l[q] := ⟨_, rfl⟩
        rw [← hx] at hc hcx
        obtain ⟨xc, hxc⟩ : ∃ r, r = L[q] := ⟨_, rfl⟩
        rw [← hxc] at hcx
        have x0 : wr.cell? ⟨b, off + q * 7, none⟩ = some (.int .u64 (x.lsn : Int)) := ((stepR BB1.out HB.out).cell (p := ⟨b, off + q * 7, none⟩) (lt_of_cellR (hc 0 _ rfl))).trans (hc 0 _ rfl)
        have x1 : wr.cell? ⟨b, off + q * 7 + 1, none⟩ = some (.int .u32 (x.ep : Int)) := ((stepR BB1.out HB.out).cell (p := ⟨b, off + q * 7 + 1, none⟩) (lt_of_cellR (hc 1 _ rfl))).trans (hc 1 _ rfl)
        have x2 : wr.cell? ⟨b, off + q * 7 + 2, none⟩ = some (.int .i64 x.kind) := ((stepR BB1.out HB.out).cell (p := ⟨b, off + q * 7 + 2, none⟩) (lt_of_cellR (hc 2 _ rfl))).trans (hc 2 _ rfl)
        have x3 : wr.cell? ⟨b, off + q * 7 + 3, none⟩ = some (.int .u64 (x.ver : Int)) := ((stepR BB1.out HB.out).cell (p := ⟨b, off + q * 7 + 3, none⟩) (lt_of_cellR (hc 3 _ rfl))).trans (hc 3 _ rfl)
        have x4 : wr.cell? ⟨b, off + q * 7 + 4, none⟩ = some (.int .u64 (x.dl : Int)) := ((stepR BB1.out HB.out).cell (p := ⟨b, off + q * 7 + 4, none⟩) (lt_of_cellR (hc 4 _ rfl))).trans (hc 4 _ rfl)
        have x5 : wr.cell? ⟨b, off + q * 7 + 5, none⟩ = some (.string x.id) := ((stepR BB1.out HB.out).cell (p := ⟨b, off + q * 7 + 5, none⟩) (lt_of_cellR (hc 5 _ rfl))).trans (hc 5 _ rfl)
        have x6 : wr.cell? ⟨b, off + q * 7 + 6, none⟩ = some (.string x.va) := ((stepR BB1.out HB.out).cell (p := ⟨b, off + q * 7 + 6, none⟩) (lt_of_cellR (hc 6 _ rfl))).trans (hc 6 _ rfl)
        have RFX : Hid (∀ W, Calls Try.prog 19 #[.agg #[.int .u64 (x.lsn : Int), .int .u32 (x.ep : Int), .int .i64 x.kind, .int .u64 (x.ver : Int), .int .u64 (x.dl : Int), .string x.id, .string x.va]] W fun e w' => e = .returned (.agg #[.int .u64 (xc.lsn : Int), .int .u32 (xc.ep : Int), .int .i64 xc.kind, .int .u64 (xc.ver : Int), .int .u64 (xc.dl : Int), .string xc.id, .string xc.va]) ∧ Below W.heap.size W w') := Lib.hid (fun W => by have h := CutR_val x W; rw [← hcx] at h; exact h)
        have fx : ∀ W : World, (Instr.field 34 (.agg #[.int .u64 (xc.lsn : Int), .int .u32 (xc.ep : Int), .int .i64 xc.kind, .int .u64 (xc.ver : Int), .int .u64 (xc.dl : Int), .string xc.id, .string xc.va]) 5).run Try.prog W = .ok (.string xc.id) W := fun _ => by kernel_rfl
        have HXC := Lib.hid hxc
        have WJ := Lib.hid (wrI q (by omega))
        have hv7 := (own_ints OWN.out)
        obtain ⟨o7, c7, rfl, _⟩ := hv7
        rw [HEL.out] at OWN ⊢
        subst hoa
        clear hc hx hxc hcx
        go_wp2_with fail
        refine (RFX.out _).mono ?_; rintro e wa ⟨rfl, hb⟩
        have HB2 := Lib.hid (stepR HB.out hb)
        have OV := Lib.hid (IOthers_val wa X bn bp 40 40 NF QF xc.id (z : Int) (IX1.out.below HB2.out) (by omega))
        clear x0 x1 x2 x3 x4 x5 x6
        go_wp2_with fail
        refine OV.out.mono ?_; rintro e wb ⟨⟨c, rfl, hc⟩, hb2⟩
        have hcs := Lib.hid (hc _ QEN.out)
        have hab := stepR hb hb2
        have HB3 := Lib.hid (stepR HB2.out hb2)
        have OWN2 := Lib.hid ((OWN.out.kept (grown_belowR hab) (apartR (by simp))).alloc (.cells #[.int .i64 c] (3 : Nat)))
        have HNW := Lib.hid (heap_alloc_new wb (.cells #[.int .i64 c] (3 : Nat)))
        obtain ⟨ii, zz, i1, i2, i3, i4, i5⟩ := int_info
        have I1 := Lib.hid i1
        have I2 := Lib.hid i2
        have I3 := Lib.hid i3
        have I4 := Lib.hid i4
        have I5 := Lib.hid i5
        clear hc hb hb2 hab OV i1 i2 i3 i4 i5
        go_wp2_with (at_builtin; go_loud (refine wpList_append_lies _ rfl _ _ 62 rfl w1.heap.size 3 ii zz 1 8 Try.underlying62 I1.out I2.out I3.out I4.out I5.out (by decide) (.slice o7 q c7) q (E.flatMap encZ) rfl ?a30 ⟨wb.heap.size, 0, none⟩ 1 1 (#[.int .i64 c] : Array Value).toList rfl rfl ?a31 ?a32 ?a33 ?a34 ?a35 ?a36 _ rfl ?_))
        case a30 =>
          have h := OWN2.out
          rw [HEL.out] at h
          exact h
        (try case a31 => exact World.news_of_block HNW.out)
        case a32 => simp [Value.oneCell']
        case a33 => decide
        case a34 => simp only [maxLen]; omega
        case a35 => omega
        case a36 => have := HB3.out.size; rw [alloc_sizeR]; omega
        intro g5 cap5 w5 hown5 hg hw hlt5
        have HBW := Lib.hid ((HB3.out.trans ((Below.refl _ _).alloc HB3.out.size _)).trans (below_grownR hg (fun k hk => (own_geR OWN2.out k hk).1) (by rw [alloc_sizeR]; have := HB3.out.size; omega)))
        have HOWN5 := Lib.hid hown5
        clear hown5 hg hw hlt5
        go_wp2_with fail
        go_roundw
        case rel =>
          refine ⟨q + 1, E ++ [c], by omega, by first | rfl | (rw [WJ.out]), by rw [List.length_append, HEL.out]; rfl, (fun k hk hL => ?_), by show World.ownsRow _ _ _ _ _ (E ++ [_]).length ((E ++ [_]).flatMap encZ); rw [flat_snoc, List.length_append, HEL.out]; exact HOWN5.out, HBW.out⟩
          by_cases hkE : k < E.length
          · rw [List.getElem_append_left hkE]; exact HEV.out k hkE hL
          · have hkq : k = q := by have := HEL.out; rw [List.length_append, List.length_singleton] at hk; omega
            subst hkq
            rw [List.getElem_append_right (by have := HEL.out; omega)]
            simp only [List.getElem_singleton]
            rw [hcs.out, HXC.out]
        case measure => (try rw [WJ.out]); simp only [intOf, Int.toNat_natCast]; omega
      · have hk40 : ¬ (q : Int) < 40 := by omega
        have hqM : M = q := by have := HLL.out; have := HM.out; omega
        subst hqM
        clear h40 hlt
        have hE : E.length = M := by have := HEL.out; omega
        have own := own_ints OWN.out
        obtain ⟨oe, ce, rfl, hcells⟩ := own
        have ECL := Lib.hid hcells
        rw [hE]
        have HE := Lib.hid hE
        rename World => wo
        clear hcells hE OWN
        go_wp2_with fail
        go_loopw [10, 8] (fun kv tv wi => ∃ k : Nat, k ≤ 4 ∧ kv = .int .i64 k ∧ tv = .int .i64 (thr QF (z : Int) k) ∧ Below wo.heap.size wo wi) (fun kv _ _ => 4 - (intOf kv).toNat)
        case atStart => exact ⟨0, by omega, rfl, rfl, Below.refl _ _⟩
        case round =>
          obtain ⟨k, hk, rfl, rfl, hbl⟩ := hrel
          have HB2 := Lib.hid hbl
          clear hbl
          by_cases hlt : k < 4
          · have hk4 : (k : Int) < 4 := by omega
            have hav := IAt_val wr X bn bp 40 40 NF QF ((z : Int), (k : Int)) (IX1.out.below (HB.out.trans (HB2.out.mono HB.out.size))) ⟨wf_small (by omega) (by omega), wf_small (by omega) (by omega)⟩
            obtain ⟨sid, hsid⟩ : ∃ s, s = (QF ((z : Int), (k : Int))).getD ⟨#[]⟩ := ⟨_, rfl⟩
            have hstep : thr QF (z : Int) (k + 1) = thr QF (z : Int) k + if (QF ((z : Int), (k : Int))).isSome = true then 1 else 0 := rfl
            obtain ⟨bq, hbq⟩ : ∃ s, s = (QF ((z : Int), (k : Int))).isSome := ⟨_, rfl⟩
            rw [← hsid, ← hbq] at hav
            rw [← hbq] at hstep
            obtain ⟨tk, htk⟩ : ∃ x, x = thr QF (z : Int) k := ⟨_, rfl⟩
            have htk4 : tk ≤ 4 := by have := thr_le QF (z : Int) k; omega
            rw [← htk] at hstep ⊢
            have HAV := Lib.hid hav
            have HST := Lib.hid hstep
            have WK := Lib.hid (wrI k (by omega))
            have WT := Lib.hid (wrI tk (by omega))
            clear hav hsid hbq hstep htk
            go_wp2_with fail
            refine HAV.out.mono ?_; rintro e wa ⟨rfl, hb⟩
            have HB3 := Lib.hid (stepR HB2.out hb)
            clear hb HAV
            cases bq with
            | true =>
              go_wp2_with fail
              go_roundw
              case rel => exact ⟨k + 1, by omega, by first | rfl | (rw [WK.out]), by rw [HST.out]; first | rfl | (rw [WT.out]; rfl), HB3.out⟩
              case measure => (try rw [WK.out]); simp only [intOf, Int.toNat_natCast]; omega
            | false =>
              go_wp2_with fail
              go_roundw
              case rel => exact ⟨k + 1, by omega, by first | rfl | (rw [WK.out]), by rw [HST.out]; rfl, HB3.out⟩
              case measure => (try rw [WK.out]); simp only [intOf, Int.toNat_natCast]; omega
          · have hk4 : k = 4 := by omega
            subst hk4
            obtain ⟨T, hT⟩ : ∃ x, x = thr QF (z : Int) 4 := ⟨_, rfl⟩
            have HT := Lib.hid hT
            rw [← hT]
            have GV := Lib.hid (IGone_val wr X bn bp 40 40 NF QF (z : Int) (IX1.out.below (HB.out.trans (HB2.out.mono HB.out.size))) (by omega) QSZ.out)
            clear hT hlt
            go_wp2_with fail
            refine GV.out.mono ?_; rintro e wg ⟨⟨c, rfl, hc⟩, hix, hmq⟩
            have hcT : c = (T : Int) := by rw [hc _ QEN.out, THR.out, HT.out]
            subst hcT
            have IXG := Lib.hid hix
            have HBO := Lib.hid (HB.out.trans (HB2.out.mono HB.out.size))
            have HBG := Lib.hid ((stepR BB1.out HBO.out).trans (hmq.below LB.out.2.1 LB.out.2.2 (stepR BB1.out HBO.out).size))
            have EC := Lib.hid (show ∀ i (hi : i < E.length), ∃ b, oe = some ⟨b, 0, none⟩ ∧ wg.cell? ⟨b, i, none⟩ = some (.int .i64 E[i]) from fun i hi => by
              obtain ⟨b, h1, h2, h3⟩ := ECL.out i hi
              have h4 := (HB2.out.cell (p := ⟨b, i, none⟩) (lt_of_cellR h3)).trans h3
              have hlts := IX1.out.lts
              exact ⟨b, h1, mq_cell hmq h4 (lt_of_cellR h4) (by show b ≠ bn; omega) (by show b ≠ bp; omega)⟩)
            have INV := Lib.hid (IIn_val wg X bn bp 40 40 _ _ (z : Int) hix (by omega) (fun i s hs => NSZ.out i s (goneN1_of hs)))
            clear hc hix hmq GV ECL
            go_wp2_with fail
            refine INV.out.mono ?_; rintro e wn ⟨⟨c1, c2, c3, rfl, hc⟩, hb⟩
            obtain ⟨EL, hEL, hEl⟩ := IXG.out.news.enum kN_law
            have h0 := in_gone STAND.out hEL
            have hcs := hc _ hEL
            have e1 : c1 = 0 := hcs.1.trans h0.1
            have e2 : c2 = 0 := hcs.2.1.trans h0.2.1
            have e3 : c3 = 0 := hcs.2.2.trans h0.2.2
            subst e1 e2 e3
            have HBN := Lib.hid hb
            clear hb hc hcs h0 hEL hEl EL INV
            go_wp2_with fail
            go_loopw [17] (fun iv wi => ∃ q : Nat, q ≤ M ∧ iv = .int .i64 q ∧ Below wg.heap.size wg wi) (fun iv _ => M - (intOf iv).toNat)
            case atStart => exact ⟨0, by omega, rfl, HBN.out⟩
            case round =>
              obtain ⟨q, hq, rfl, hbl⟩ := hrel
              have HB5 := Lib.hid hbl
              clear hbl
              by_cases hlt : q < M
              · have hqM : (q : Int) < (M : Int) := by omega
                have hqn : (q : Int) < (n : Int) := by omega
                have hql : q < l.length := by have := HN.out; omega
                have hqL : q < L.length := by have := HM.out; omega
                have hqE : q < E.length := by have := HE.out; omega
                obtain ⟨b, off, hoa, hc⟩ := AT.out q hql
                obtain ⟨be, hoe, hce⟩ := EC.out q hqE
                have hcx := HLA.out q hql hqL
                have heq := HEV.out q hqE hqL
                obtain ⟨x, hx⟩ : ∃ r, r = l[q] := ⟨_, rfl⟩
                rw [← hx] at hc hcx
                obtain ⟨xc, hxc⟩ : ∃ r, r = L[q] := ⟨_, rfl⟩
                rw [← hxc] at hcx heq
                obtain ⟨eq', heq'⟩ : ∃ r, r = E[q] := ⟨_, rfl⟩
                rw [← heq'] at hce heq
                have IX5 := IXG.out.below HB5.out
                have AV := Lib.hid (show Calls Try.prog 17 #[.pointer (some ⟨X, 0, none⟩), .agg #[.int .i64 (z : Int), .int .i64 ((q : Int) % 4)]] wr fun e w' => e = .returned (.tuple #[.string ⟨#[]⟩, .bool false]) ∧ Below wr.heap.size wr w' from by
                  have h := IAt_val wr X bn bp 40 40 _ _ ((z : Int), (q : Int) % 4) IX5 ⟨wf_small (by omega) (by omega), wf_small (by omega) (by omega)⟩
                  rw [show goneQ1 QF (z : Int) ((z : Int), (q : Int) % 4) = none from if_pos rfl] at h
                  exact h)
                have OV : ∀ W, Below wg.heap.size wg W → Calls Try.prog 20 #[.pointer (some ⟨X, 0, none⟩), .string xc.id, .int .i64 (-1)] W fun e w' => e = .returned (.int .i64 eq') ∧ Below W.heap.size W w' := fun W hW => (IOthers_val W X bn bp 40 40 _ _ xc.id (-1) (IXG.out.below hW) (by omega)).mono (by
                  rintro e w' ⟨⟨c, rfl, hcc⟩, hb⟩
                  refine ⟨?_, hb⟩
                  rw [hcc _ (QEN.out.goneQ (z : Int)), oth_gone POS.out, heq])
                have OVH := Lib.hid OV
                have RFX : Hid (∀ W, Calls Try.prog 19 #[.agg #[.int .u64 (x.lsn : Int), .int .u32 (x.ep : Int), .int .i64 x.kind, .int .u64 (x.ver : Int), .int .u64 (x.dl : Int), .string x.id, .string x.va]] W fun e w' => e = .returned (.agg #[.int .u64 (xc.lsn : Int), .int .u32 (xc.ep : Int), .int .i64 xc.kind, .int .u64 (xc.ver : Int), .int .u64 (xc.dl : Int), .string xc.id, .string xc.va]) ∧ Below W.heap.size W w') := Lib.hid (fun W => by have h := CutR_val x W; rw [← hcx] at h; exact h)
                have fx : ∀ W : World, (Instr.field 34 (.agg #[.int .u64 (xc.lsn : Int), .int .u32 (xc.ep : Int), .int .i64 xc.kind, .int .u64 (xc.ver : Int), .int .u64 (xc.dl : Int), .string xc.id, .string xc.va]) 5).run Try.prog W = .ok (.string xc.id) W := fun _ => by kernel_rfl
                have HDX := Lib.hid hc
                have HDE := Lib.hid hce
                have WJ := Lib.hid (wrI q (by omega))
                subst hoa hoe
                clear hc hce hx hxc hcx heq heq' IX5 OV
                go_wp2_with fail
                refine AV.out.mono ?_; rintro e wa ⟨rfl, hb⟩
                have HB6 := Lib.hid (stepR HB5.out hb)
                have hc := HDX.out
                have hce := (HB6.out.cell (p := ⟨be, q, none⟩) (lt_of_cellR HDE.out)).trans HDE.out
                have x0 : wa.cell? ⟨b, off + q * 7, none⟩ = some (.int .u64 (x.lsn : Int)) := ((stepR HBG.out HB6.out).cell (p := ⟨b, off + q * 7, none⟩) (lt_of_cellR (hc 0 _ rfl))).trans (hc 0 _ rfl)
                have x1 : wa.cell? ⟨b, off + q * 7 + 1, none⟩ = some (.int .u32 (x.ep : Int)) := ((stepR HBG.out HB6.out).cell (p := ⟨b, off + q * 7 + 1, none⟩) (lt_of_cellR (hc 1 _ rfl))).trans (hc 1 _ rfl)
                have x2 : wa.cell? ⟨b, off + q * 7 + 2, none⟩ = some (.int .i64 x.kind) := ((stepR HBG.out HB6.out).cell (p := ⟨b, off + q * 7 + 2, none⟩) (lt_of_cellR (hc 2 _ rfl))).trans (hc 2 _ rfl)
                have x3 : wa.cell? ⟨b, off + q * 7 + 3, none⟩ = some (.int .u64 (x.ver : Int)) := ((stepR HBG.out HB6.out).cell (p := ⟨b, off + q * 7 + 3, none⟩) (lt_of_cellR (hc 3 _ rfl))).trans (hc 3 _ rfl)
                have x4 : wa.cell? ⟨b, off + q * 7 + 4, none⟩ = some (.int .u64 (x.dl : Int)) := ((stepR HBG.out HB6.out).cell (p := ⟨b, off + q * 7 + 4, none⟩) (lt_of_cellR (hc 4 _ rfl))).trans (hc 4 _ rfl)
                have x5 : wa.cell? ⟨b, off + q * 7 + 5, none⟩ = some (.string x.id) := ((stepR HBG.out HB6.out).cell (p := ⟨b, off + q * 7 + 5, none⟩) (lt_of_cellR (hc 5 _ rfl))).trans (hc 5 _ rfl)
                have x6 : wa.cell? ⟨b, off + q * 7 + 6, none⟩ = some (.string x.va) := ((stepR HBG.out HB6.out).cell (p := ⟨b, off + q * 7 + 6, none⟩) (lt_of_cellR (hc 6 _ rfl))).trans (hc 6 _ rfl)
                replace x0 := cell_regrown x0; replace x1 := cell_regrown x1; replace x2 := cell_regrown x2; replace x3 := cell_regrown x3; replace x4 := cell_regrown x4; replace x5 := cell_regrown x5; replace x6 := cell_regrown x6
                replace hce := cell_regrown hce
                have cx := RFX.out
                clear hc hb AV
                go_wp2_with fail
                refine Loose.wp_region_quiet_fast (by kernel_rfl) (by kernel_rfl) ?_
                (try simp only [List.append_eq, List.cons_append, List.nil_append])
                repeat (go_big_quiet_step (fail))
                go_big_quiet_step ((go_at_call 19; exact Calls.regrown_of (cx _)))
                repeat (go_big_quiet_step (fail))
                go_big_quiet_step ((go_at_call 20; exact Calls.regrown_of (OVH.out _ (stepR HB6.out (below_regrown wa _ _)))))
                repeat (go_big_quiet_step (fail))
                refine wpQuiet_nil ?_
                intro _ hw'
                obtain ⟨⟨dq, osq⟩, hw''⟩ := hw'
                subst hw''
                have bQ := below_regrown wa dq osq
                have HBQ := Lib.hid (stepR HB6.out bQ)
                clear bQ x0 x1 x2 x3 x4 x5 x6 hce cx
                go_wp2_with fail
                go_roundw
                case rel => exact ⟨q + 1, by omega, by first | rfl | (rw [WJ.out]), HBQ.out⟩
                case measure => (try rw [WJ.out]); simp only [intOf, Int.toNat_natCast]; omega
              · have hqM : ¬ (q : Int) < (M : Int) := by omega
                have IX5 := Lib.hid (IXG.out.below HB5.out)
                have G2 := Lib.hid (IGone_val wr X bn bp 40 40 _ _ (z : Int) IX5.out (by omega) (fun p s hs => QSZ.out p s (by unfold goneQ1 at hs; split at hs; · cases hs
                                                                                                                               · exact hs)))
                have TT : ((T : Int) == (T : Int)) = true := beq_self_eq_true _
                go_wp2_with fail
                refine G2.out.mono ?_; rintro e wz ⟨⟨c, rfl, hc⟩, hix, hmq⟩
                have hc0 : c = 0 := (hc _ (QEN.out.goneQ (z : Int))).trans gon_gone
                subst hc0
                have HBZ := Lib.hid (stepR HBG.out HB5.out)
                have HB7 := Lib.hid (HBZ.out.trans (hmq.below LB.out.2.1 LB.out.2.2 HBZ.out.size))
                clear hc hix hmq G2
                go_wp2_with fail
                refine (fixed_val wz).mono ?_; rintro e wy ⟨rfl, hb⟩
                go_wp2_with fail
                go_ret
                exact ⟨rfl, stepR HB7.out hb⟩
    · have hkn : ¬ (q : Int) < (n : Int) := by omega
      have hqM : M = q := by have := HLL.out; have := HM.out; omega
      subst hqM
      clear hlt
      have hE : E.length = M := by have := HEL.out; omega
      have own := own_ints OWN.out
      obtain ⟨oe, ce, rfl, hcells⟩ := own
      have ECL := Lib.hid hcells
      rw [hE]
      have HE := Lib.hid hE
      rename World => wo
      clear hcells hE OWN
      go_wp2_with fail
      go_loopw [10, 8] (fun kv tv wi => ∃ k : Nat, k ≤ 4 ∧ kv = .int .i64 k ∧ tv = .int .i64 (thr QF (z : Int) k) ∧ Below wo.heap.size wo wi) (fun kv _ _ => 4 - (intOf kv).toNat)
      case atStart => exact ⟨0, by omega, rfl, rfl, Below.refl _ _⟩
      case round =>
        obtain ⟨k, hk, rfl, rfl, hbl⟩ := hrel
        have HB2 := Lib.hid hbl
        clear hbl
        by_cases hlt : k < 4
        · have hk4 : (k : Int) < 4 := by omega
          have hav := IAt_val wr X bn bp 40 40 NF QF ((z : Int), (k : Int)) (IX1.out.below (HB.out.trans (HB2.out.mono HB.out.size))) ⟨wf_small (by omega) (by omega), wf_small (by omega) (by omega)⟩
          obtain ⟨sid, hsid⟩ : ∃ s, s = (QF ((z : Int), (k : Int))).getD ⟨#[]⟩ := ⟨_, rfl⟩
          have hstep : thr QF (z : Int) (k + 1) = thr QF (z : Int) k + if (QF ((z : Int), (k : Int))).isSome = true then 1 else 0 := rfl
          obtain ⟨bq, hbq⟩ : ∃ s, s = (QF ((z : Int), (k : Int))).isSome := ⟨_, rfl⟩
          rw [← hsid, ← hbq] at hav
          rw [← hbq] at hstep
          obtain ⟨tk, htk⟩ : ∃ x, x = thr QF (z : Int) k := ⟨_, rfl⟩
          have htk4 : tk ≤ 4 := by have := thr_le QF (z : Int) k; omega
          rw [← htk] at hstep ⊢
          have HAV := Lib.hid hav
          have HST := Lib.hid hstep
          have WK := Lib.hid (wrI k (by omega))
          have WT := Lib.hid (wrI tk (by omega))
          clear hav hsid hbq hstep htk
          go_wp2_with fail
          refine HAV.out.mono ?_; rintro e wa ⟨rfl, hb⟩
          have HB3 := Lib.hid (stepR HB2.out hb)
          clear hb HAV
          cases bq with
          | true =>
            go_wp2_with fail
            go_roundw
            case rel => exact ⟨k + 1, by omega, by first | rfl | (rw [WK.out]), by rw [HST.out]; first | rfl | (rw [WT.out]; rfl), HB3.out⟩
            case measure => (try rw [WK.out]); simp only [intOf, Int.toNat_natCast]; omega
          | false =>
            go_wp2_with fail
            go_roundw
            case rel => exact ⟨k + 1, by omega, by first | rfl | (rw [WK.out]), by rw [HST.out]; rfl, HB3.out⟩
            case measure => (try rw [WK.out]); simp only [intOf, Int.toNat_natCast]; omega
        · have hk4 : k = 4 := by omega
          subst hk4
          obtain ⟨T, hT⟩ : ∃ x, x = thr QF (z : Int) 4 := ⟨_, rfl⟩
          have HT := Lib.hid hT
          rw [← hT]
          have GV := Lib.hid (IGone_val wr X bn bp 40 40 NF QF (z : Int) (IX1.out.below (HB.out.trans (HB2.out.mono HB.out.size))) (by omega) QSZ.out)
          clear hT hlt
          go_wp2_with fail
          refine GV.out.mono ?_; rintro e wg ⟨⟨c, rfl, hc⟩, hix, hmq⟩
          have hcT : c = (T : Int) := by rw [hc _ QEN.out, THR.out, HT.out]
          subst hcT
          have IXG := Lib.hid hix
          have HBO := Lib.hid (HB.out.trans (HB2.out.mono HB.out.size))
          have HBG := Lib.hid ((stepR BB1.out HBO.out).trans (hmq.below LB.out.2.1 LB.out.2.2 (stepR BB1.out HBO.out).size))
          have EC := Lib.hid (show ∀ i (hi : i < E.length), ∃ b, oe = some ⟨b, 0, none⟩ ∧ wg.cell? ⟨b, i, none⟩ = some (.int .i64 E[i]) from fun i hi => by
            obtain ⟨b, h1, h2, h3⟩ := ECL.out i hi
            have h4 := (HB2.out.cell (p := ⟨b, i, none⟩) (lt_of_cellR h3)).trans h3
            have hlts := IX1.out.lts
            exact ⟨b, h1, mq_cell hmq h4 (lt_of_cellR h4) (by show b ≠ bn; omega) (by show b ≠ bp; omega)⟩)
          have INV := Lib.hid (IIn_val wg X bn bp 40 40 _ _ (z : Int) hix (by omega) (fun i s hs => NSZ.out i s (goneN1_of hs)))
          clear hc hix hmq GV ECL
          go_wp2_with fail
          refine INV.out.mono ?_; rintro e wn ⟨⟨c1, c2, c3, rfl, hc⟩, hb⟩
          obtain ⟨EL, hEL, hEl⟩ := IXG.out.news.enum kN_law
          have h0 := in_gone STAND.out hEL
          have hcs := hc _ hEL
          have e1 : c1 = 0 := hcs.1.trans h0.1
          have e2 : c2 = 0 := hcs.2.1.trans h0.2.1
          have e3 : c3 = 0 := hcs.2.2.trans h0.2.2
          subst e1 e2 e3
          have HBN := Lib.hid hb
          clear hb hc hcs h0 hEL hEl EL INV
          go_wp2_with fail
          go_loopw [17] (fun iv wi => ∃ q : Nat, q ≤ M ∧ iv = .int .i64 q ∧ Below wg.heap.size wg wi) (fun iv _ => M - (intOf iv).toNat)
          case atStart => exact ⟨0, by omega, rfl, HBN.out⟩
          case round =>
            obtain ⟨q, hq, rfl, hbl⟩ := hrel
            have HB5 := Lib.hid hbl
            clear hbl
            by_cases hlt : q < M
            · have hqM : (q : Int) < (M : Int) := by omega
              have hqn : (q : Int) < (n : Int) := by omega
              have hql : q < l.length := by have := HN.out; omega
              have hqL : q < L.length := by have := HM.out; omega
              have hqE : q < E.length := by have := HE.out; omega
              obtain ⟨b, off, hoa, hc⟩ := AT.out q hql
              obtain ⟨be, hoe, hce⟩ := EC.out q hqE
              have hcx := HLA.out q hql hqL
              have heq := HEV.out q hqE hqL
              obtain ⟨x, hx⟩ : ∃ r, r = l[q] := ⟨_, rfl⟩
              rw [← hx] at hc hcx
              obtain ⟨xc, hxc⟩ : ∃ r, r = L[q] := ⟨_, rfl⟩
              rw [← hxc] at hcx heq
              obtain ⟨eq', heq'⟩ : ∃ r, r = E[q] := ⟨_, rfl⟩
              rw [← heq'] at hce heq
              have IX5 := IXG.out.below HB5.out
              have AV := Lib.hid (show Calls Try.prog 17 #[.pointer (some ⟨X, 0, none⟩), .agg #[.int .i64 (z : Int), .int .i64 ((q : Int) % 4)]] wr fun e w' => e = .returned (.tuple #[.string ⟨#[]⟩, .bool false]) ∧ Below wr.heap.size wr w' from by
                have h := IAt_val wr X bn bp 40 40 _ _ ((z : Int), (q : Int) % 4) IX5 ⟨wf_small (by omega) (by omega), wf_small (by omega) (by omega)⟩
                rw [show goneQ1 QF (z : Int) ((z : Int), (q : Int) % 4) = none from if_pos rfl] at h
                exact h)
              have OV : ∀ W, Below wg.heap.size wg W → Calls Try.prog 20 #[.pointer (some ⟨X, 0, none⟩), .string xc.id, .int .i64 (-1)] W fun e w' => e = .returned (.int .i64 eq') ∧ Below W.heap.size W w' := fun W hW => (IOthers_val W X bn bp 40 40 _ _ xc.id (-1) (IXG.out.below hW) (by omega)).mono (by
                rintro e w' ⟨⟨c, rfl, hcc⟩, hb⟩
                refine ⟨?_, hb⟩
                rw [hcc _ (QEN.out.goneQ (z : Int)), oth_gone POS.out, heq])
              have OVH := Lib.hid OV
              have RFX : Hid (∀ W, Calls Try.prog 19 #[.agg #[.int .u64 (x.lsn : Int), .int .u32 (x.ep : Int), .int .i64 x.kind, .int .u64 (x.ver : Int), .int .u64 (x.dl : Int), .string x.id, .string x.va]] W fun e w' => e = .returned (.agg #[.int .u64 (xc.lsn : Int), .int .u32 (xc.ep : Int), .int .i64 xc.kind, .int .u64 (xc.ver : Int), .int .u64 (xc.dl : Int), .string xc.id, .string xc.va]) ∧ Below W.heap.size W w') := Lib.hid (fun W => by have h := CutR_val x W; rw [← hcx] at h; exact h)
              have fx : ∀ W : World, (Instr.field 34 (.agg #[.int .u64 (xc.lsn : Int), .int .u32 (xc.ep : Int), .int .i64 xc.kind, .int .u64 (xc.ver : Int), .int .u64 (xc.dl : Int), .string xc.id, .string xc.va]) 5).run Try.prog W = .ok (.string xc.id) W := fun _ => by kernel_rfl
              have HDX := Lib.hid hc
              have HDE := Lib.hid hce
              have WJ := Lib.hid (wrI q (by omega))
              subst hoa hoe
              clear hc hce hx hxc hcx heq heq' IX5 OV
              go_wp2_with fail
              refine AV.out.mono ?_; rintro e wa ⟨rfl, hb⟩
              have HB6 := Lib.hid (stepR HB5.out hb)
              have hc := HDX.out
              have hce := (HB6.out.cell (p := ⟨be, q, none⟩) (lt_of_cellR HDE.out)).trans HDE.out
              have x0 : wa.cell? ⟨b, off + q * 7, none⟩ = some (.int .u64 (x.lsn : Int)) := ((stepR HBG.out HB6.out).cell (p := ⟨b, off + q * 7, none⟩) (lt_of_cellR (hc 0 _ rfl))).trans (hc 0 _ rfl)
              have x1 : wa.cell? ⟨b, off + q * 7 + 1, none⟩ = some (.int .u32 (x.ep : Int)) := ((stepR HBG.out HB6.out).cell (p := ⟨b, off + q * 7 + 1, none⟩) (lt_of_cellR (hc 1 _ rfl))).trans (hc 1 _ rfl)
              have x2 : wa.cell? ⟨b, off + q * 7 + 2, none⟩ = some (.int .i64 x.kind) := ((stepR HBG.out HB6.out).cell (p := ⟨b, off + q * 7 + 2, none⟩) (lt_of_cellR (hc 2 _ rfl))).trans (hc 2 _ rfl)
              have x3 : wa.cell? ⟨b, off + q * 7 + 3, none⟩ = some (.int .u64 (x.ver : Int)) := ((stepR HBG.out HB6.out).cell (p := ⟨b, off + q * 7 + 3, none⟩) (lt_of_cellR (hc 3 _ rfl))).trans (hc 3 _ rfl)
              have x4 : wa.cell? ⟨b, off + q * 7 + 4, none⟩ = some (.int .u64 (x.dl : Int)) := ((stepR HBG.out HB6.out).cell (p := ⟨b, off + q * 7 + 4, none⟩) (lt_of_cellR (hc 4 _ rfl))).trans (hc 4 _ rfl)
              have x5 : wa.cell? ⟨b, off + q * 7 + 5, none⟩ = some (.string x.id) := ((stepR HBG.out HB6.out).cell (p := ⟨b, off + q * 7 + 5, none⟩) (lt_of_cellR (hc 5 _ rfl))).trans (hc 5 _ rfl)
              have x6 : wa.cell? ⟨b, off + q * 7 + 6, none⟩ = some (.string x.va) := ((stepR HBG.out HB6.out).cell (p := ⟨b, off + q * 7 + 6, none⟩) (lt_of_cellR (hc 6 _ rfl))).trans (hc 6 _ rfl)
              replace x0 := cell_regrown x0; replace x1 := cell_regrown x1; replace x2 := cell_regrown x2; replace x3 := cell_regrown x3; replace x4 := cell_regrown x4; replace x5 := cell_regrown x5; replace x6 := cell_regrown x6
              replace hce := cell_regrown hce
              have cx := RFX.out
              clear hc hb AV
              go_wp2_with fail
              refine Loose.wp_region_quiet_fast (by kernel_rfl) (by kernel_rfl) ?_
              (try simp only [List.append_eq, List.cons_append, List.nil_append])
              repeat (go_big_quiet_step (fail))
              go_big_quiet_step ((go_at_call 19; exact Calls.regrown_of (cx _)))
              repeat (go_big_quiet_step (fail))
              go_big_quiet_step ((go_at_call 20; exact Calls.regrown_of (OVH.out _ (stepR HB6.out (below_regrown wa _ _)))))
              repeat (go_big_quiet_step (fail))
              refine wpQuiet_nil ?_
              intro _ hw'
              obtain ⟨⟨dq, osq⟩, hw''⟩ := hw'
              subst hw''
              have bQ := below_regrown wa dq osq
              have HBQ := Lib.hid (stepR HB6.out bQ)
              clear bQ x0 x1 x2 x3 x4 x5 x6 hce cx
              go_wp2_with fail
              go_roundw
              case rel => exact ⟨q + 1, by omega, by first | rfl | (rw [WJ.out]), HBQ.out⟩
              case measure => (try rw [WJ.out]); simp only [intOf, Int.toNat_natCast]; omega
            · have hqM : ¬ (q : Int) < (M : Int) := by omega
              have IX5 := Lib.hid (IXG.out.below HB5.out)
              have G2 := Lib.hid (IGone_val wr X bn bp 40 40 _ _ (z : Int) IX5.out (by omega) (fun p s hs => QSZ.out p s (by unfold goneQ1 at hs; split at hs; · cases hs
                                                                                                                             · exact hs)))
              have TT : ((T : Int) == (T : Int)) = true := beq_self_eq_true _
              go_wp2_with fail
              refine G2.out.mono ?_; rintro e wz ⟨⟨c, rfl, hc⟩, hix, hmq⟩
              have hc0 : c = 0 := (hc _ (QEN.out.goneQ (z : Int))).trans gon_gone
              subst hc0
              have HBZ := Lib.hid (stepR HBG.out HB5.out)
              have HB7 := Lib.hid (HBZ.out.trans (hmq.below LB.out.2.1 LB.out.2.2 HBZ.out.size))
              clear hc hix hmq G2
              go_wp2_with fail
              refine (fixed_val wz).mono ?_; rintro e wy ⟨rfl, hb⟩
              go_wp2_with fail
              go_ret
              exact ⟨rfl, stepR HB7.out hb⟩
theorem IndexGone_walk (v0 : Value) (a1 : Int) (w : World) (o0 : Row.Opn Try.prog w 41 v0) (w1 : (Lit.int .u8 a1).wf = true) :
    Calls Try.prog 8 #[v0, .int .u8 a1] w fun e w' => e = .returned (.bool true) ∧ Below w.heap.size w w' := by
  obtain ⟨l, h1, h2, h3⟩ := open_recs o0
  have hr : 0 ≤ a1 ∧ a1 < 256 := by simp [Lit.wf, IntKind.min, IntKind.max, IntKind.bits, IntKind.signed] at w1; omega
  obtain ⟨g, rfl⟩ : ∃ g : Nat, a1 = (g : Int) := ⟨a1.toNat, by omega⟩
  exact gone_main l g v0 w (by omega) h1 h3
end Go.Proofs.Ythpompgcnemanaa.L
