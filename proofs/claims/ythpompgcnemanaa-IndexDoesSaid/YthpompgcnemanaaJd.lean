/- The document's index: Kill, Gone. -/
import Derived.Test.YthpompgcnemanaaJc
import Derived.Test.YthpompgcnemanaaGFast
import Derived.BigQuiet
namespace Go.Proofs.Ythpompgcnemanaa.G
open Go.RowKit Go.Maps Go.Proofs Go.Proofs.Ythpompgcnemanaa.WordPlain Go.Proofs.Ythpompgcnemanaa.Loose
set_option linter.unusedVariables false
set_option linter.unusedSimpArgs false

/-- the newest, by rising ids -/
structure NL (N : ByteArray → Option Ent) (L : List (ByteArray × Ent)) : Prop where
  en : En N L
  srt : L.Pairwise fun a b => bl8 a.1 < bl8 b.1
theorem SetI.nl {i : ByteArray} {e : Ent} {L M : List (ByteArray × Ent)} {N : ByteArray → Option Ent} (h : SetI i e L M) (hL : NL N L) : NL (updM N i (some e)) M := ⟨(h.law hL.en hL.srt).1, (h.law hL.en hL.srt).2⟩
theorem SetI.len {i : ByteArray} {e : Ent} {L M : List (ByteArray × Ent)} (h : SetI i e L M) : M.length ≤ L.length + 1 := by
  obtain ⟨r, hr, _, _, rfl⟩ := h
  rw [List.length_append, List.length_cons]
  have h1 := List.length_filter_le (fun q : ByteArray × Ent => decide (q.1 ≠ i)) (L.drop r)
  rw [List.length_drop] at h1
  rw [List.length_take]
  omega
set_option maxRecDepth 100000 in
set_option maxHeartbeats 8000000 in
theorem rKill_val (w : World) (R : Nat) (vS vL : Value) (S : List (Plc × ByteArray)) (L : List (ByteArray × Ent)) (N : ByteArray → Option Ent) (i : ByteArray) (h : RI w R vS vL S L) (hl : L.length ≤ 999999) (hL : NL N L) :
    Calls Try.prog 23 #[.pointer (some ⟨R, 0, none⟩), .string i] w fun e w' => e = .returned (.bool (killB N i)) ∧ (∃ lv M, RI w' R vS lv S M ∧ NL (killN N i) M ∧ M.length ≤ L.length + 1) ∧ Fw (fun i => i = R) w w' := by
  have FV := Lib.hid (rfind_val w R vS vL S L i h (by omega))
  obtain ⟨kb, hkb⟩ : ∃ b, b = killB N i := ⟨_, rfl⟩
  obtain ⟨kn, hkn⟩ : ∃ b, b = killN N i := ⟨_, rfl⟩
  rw [← hkb, ← hkn]
  have HKB := Lib.hid hkb
  have HKN := Lib.hid hkn
  have HNL := Lib.hid hL
  have HRI := Lib.hid h
  have hlr := own_lr (k := 7) (enc := encNw) (fun _ => rfl) h.ls
  obtain ⟨oa, cap, rfl, _, hx⟩ := hlr
  obtain ⟨n, hn⟩ : ∃ n, n = L.length := ⟨_, rfl⟩
  have HX := Lib.hid hx
  have HN := Lib.hid hn
  have HRL := Lib.hid (lt_of_rowR h.row)
  clear h hL hkb hkn hx hn
  go_enter Try.func23, Try.ntmps23
  go_wp2_with fail
  refine FV.out.mono ?_; rintro e w2 ⟨⟨k, rfl, hk⟩, hb⟩
  have RI2 := Lib.hid (HRI.out.below hb)
  have B02 := Lib.hid hb
  have hk2 := find_en HNL.out.en hk
  clear hk hb FV
  rcases hk2 with ⟨rfl, hn⟩ | ⟨j, e, hj, rfl, hje, hn⟩
  · have h1 := HKB.out
    have h2 := HKN.out
    unfold killB at h1
    unfold killN at h2
    rw [hn] at h1 h2
    simp only at h1 h2
    subst h1 h2
    clear hn
    go_wp2_with fail
    go_ret
    exact ⟨rfl, ⟨_, L, RI2.out, HNL.out, by omega⟩, Fw.of_below B02.out⟩
  · have h1 := HKB.out
    have h2 := HKN.out
    unfold killB at h1
    unfold killN at h2
    rw [hn] at h1 h2
    simp only at h1 h2
    have hjn : (j : Int) < (n : Int) := by have := HN.out; omega
    have hj0 : ¬ (j : Int) < 0 := by omega
    obtain ⟨b, off, hoa, hc⟩ := HX.out j hj
    rw [hje] at hc
    obtain ⟨ev, ed, el, ez, eg, es⟩ := e
    have hlc := lt_of_cellR (hc 0 _ rfl)
    have xc : ∀ j' u, (encNw (i, (⟨ev, ed, el, ez, eg, es⟩ : Ent)))[j']? = some u → w2.cell? ⟨b, off + j * 7 + j', none⟩ = some u := fun j' u hu => (B02.out.cell (p := ⟨b, off + j * 7 + j', none⟩) hlc).trans (hc j' u hu)
    have hrow := RI2.out.row
    rw [← HN.out] at hrow
    have c1 := (cell_of_row _ _ 1 _ _ _ hrow).trans (show _ = some (.slice oa n cap) from rfl)
    have x1 := xc 1 _ rfl
    have x2 := xc 2 _ rfl
    have x3 := xc 3 _ rfl
    have x4 := xc 4 _ rfl
    have x5 := xc 5 _ rfl
    have x6 := xc 6 _ rfl
    subst hoa
    clear hc hlc hrow xc hje
    cases el with
    | false =>
      simp only [Bool.false_eq_true, if_false] at h1 h2
      subst h1 h2
      clear hn
      go_wp2_with fail
      go_ret
      exact ⟨rfl, ⟨_, L, RI2.out, HNL.out, by omega⟩, Fw.of_below B02.out⟩
    | true =>
      simp only [if_true] at h1 h2
      subst h1
      obtain ⟨w3, hw3⟩ : ∃ W, W = w2.alloc (.cells #[.int .u64 (ev : Int), .int .u64 (ed : Int), .bool false, .int .i64 ez, .int .i64 eg, .int .i64 es] (71 : Nat)) := ⟨_, rfl⟩
      have b23 : Below w2.heap.size w2 w3 := by rw [hw3]; exact (Below.refl _ _).alloc (Nat.le_refl _) _
      have SV := Lib.hid (rset_val w3 R vS _ S L i (⟨ev, ed, false, ez, eg, es⟩ : Ent) (RI2.out.below b23) (by omega))
      have B03 := Lib.hid (stepR B02.out b23)
      have HW3 := Lib.hid hw3
      have H2 := Lib.hid h2
      clear b23 hw3 hn h2
      go_wp2_with fail
      rw [← HW3.out]
      refine SV.out.mono ?_; rintro e w4 ⟨rfl, ⟨lv, M, hset, hri⟩, hb⟩
      have HM := Lib.hid hset.len
      have NLM : Hid (NL kn M) := Lib.hid (by rw [H2.out]; exact hset.nl HNL.out)
      have RI4 := Lib.hid hri
      have B04 := Lib.hid ((Fw.of_below B03.out).trans hb)
      clear hset hri hb SV
      go_wp2_with fail
      go_ret
      exact ⟨rfl, ⟨lv, M, RI4.out, NLM.out, HM.out⟩, B04.out⟩
theorem own_blk {g a n c : Nat} (h : some g = (Value.slice (some ⟨a, 0, none⟩) n c).ownBlock) : g = a := Option.some.inj h
theorem gon_len (sg : Int) : ∀ S : List (Plc × ByteArray), (S.map (gonG sg)).sum = (S.length : Int) - ((S.filter fun p => !decide (p.1.1 = sg)).length : Int)
  | [] => rfl
  | p :: S => by
    have ih := gon_len sg S
    rw [List.map_cons, List.sum_cons, ih]
    by_cases h : p.1.1 = sg
    · rw [List.filter_cons_of_neg (by simp [h]), show gonG sg p = 1 from if_pos h, List.length_cons]; omega
    · rw [List.filter_cons_of_pos (by simp [h]), show gonG sg p = 0 from if_neg h, List.length_cons, List.length_cons]; omega
theorem filter_step {α : Type} (P : α → Bool) {l : List α} {s : Nat} (h : s < l.length) : (l.take (s + 1)).filter P = (l.take s).filter P ++ (if P l[s] = true then [l[s]] else []) := by
  rw [List.take_succ_eq_append_getElem h, List.filter_append]
  congr 1
  by_cases hp : P l[s] = true
  · simp [hp]
  · simp [hp]
theorem filter_len {α : Type} (P : α → Bool) {l : List α} {s : Nat} (hs : s ≤ l.length) : ((l.take s).filter P).length ≤ s := Nat.le_trans (List.length_filter_le _ _) (by rw [List.length_take]; omega)
def offN (sg : Int) (p : ByteArray × Ent) : Bool := !decide (p.2.seg = sg)
def offQ (sg : Int) (p : Plc × ByteArray) : Bool := !decide (p.1.1 = sg)
theorem NL.gone {N : ByteArray → Option Ent} {Q : Plc → Option ByteArray} {L : List (ByteArray × Ent)} (h : NL N L) (hst : ∀ i e, N i = some e → Q e.at_ = some i) (sg : Int) : NL (goneN1 N Q sg) (L.filter (offN sg)) := by
  have e : L.filter (offN sg) = L.filter (fun p => !decide (p.2.seg = sg ∧ Q p.2.at_ = some p.1)) := List.filter_congr fun p hp => by
    have hn := hst p.1 p.2 ((h.en.2 p.1 p.2).1 hp)
    unfold offN
    by_cases h1 : p.2.seg = sg <;> simp [h1, hn]
  rw [e]
  exact ⟨h.en.goneN sg, h.srt.filter _⟩
section
variable {w w' : World} {R : Nat} {vS vL lS lL : Value} {S M' : List (Plc × ByteArray)} {L M : List (ByteArray × Ent)}
theorem RI.setLS (h : RI w R vS vL S L) (hb : Below w.heap.size w w') (hL : OwnL w.heap.size 86 7 encNw w' lL M) (hS : OwnL w.heap.size 89 3 encSt w' lS M') (ap : ∀ k, some k = lS.ownBlock → some k ≠ lL.ownBlock) :
    RI ((w'.setCell ⟨R, 1, none⟩ lL).setCell ⟨R, 0, none⟩ lS) R lS lL M' M ∧ Fw (fun i => i = R) w ((w'.setCell ⟨R, 1, none⟩ lL).setCell ⟨R, 0, none⟩ lS) := by
  have h' := h.below hb
  have hR := lt_of_rowR h.row
  have r1 : (w'.setCell ⟨R, 1, none⟩ lL).heap[R]? = some (.cells #[vS, lL] 29 (0, 0)) := by rw [heap_setCell_same _ _ _ _ _ _ h'.row]; rfl
  refine ⟨⟨?_, own_cell (own_cell (own_base hS (by omega)) (by omega)) (by omega), own_cell (own_cell (own_base hL (by omega)) (by omega)) (by omega), ap⟩, ?_⟩
  · rw [heap_setCell_same _ _ _ _ _ _ r1]; rfl
  · exact Fw.cell (P := fun i => i = R) (Fw.cell (P := fun i => i = R) (Fw.of_below hb) rfl) rfl
end
set_option maxRecDepth 100000 in
set_option maxHeartbeats 8000000 in
theorem rGone_val (w : World) (R : Nat) (vS vL : Value) (S : List (Plc × ByteArray)) (L : List (ByteArray × Ent)) (sg : Int) (h : RI w R vS vL S L) (hl : L.length ≤ 1000000) (hs : S.length ≤ 1000000) :
    Calls Try.prog 24 #[.pointer (some ⟨R, 0, none⟩), .int .i64 sg] w fun e w' => e = .returned (.int .i64 (S.map (gonG sg)).sum) ∧ (∃ lS lL, RI w' R lS lL (S.filter (offQ sg)) (L.filter (offN sg))) ∧ Fw (fun i => i = R) w w' := by
  rw [gon_len]
  have hlr := own_lr (k := 7) (enc := encNw) (fun _ => rfl) h.ls
  obtain ⟨oa, cap, rfl, _, hx⟩ := hlr
  have hlr := own_lr (k := 3) (enc := encSt) (fun _ => rfl) h.st
  obtain ⟨ob, cap2, rfl, _, hx2⟩ := hlr
  obtain ⟨n, hn⟩ : ∃ n, n = L.length := ⟨_, rfl⟩
  obtain ⟨m, hm⟩ : ∃ n, n = S.length := ⟨_, rfl⟩
  have hrow := h.row
  rw [← hn, ← hm] at hrow
  rw [← hn] at hl
  rw [← hm] at hs ⊢
  obtain ⟨cc, hcc⟩ : ∃ c : Int, c = (m : Int) - ((S.filter fun p => !decide (p.1.1 = sg)).length : Int) := ⟨_, rfl⟩
  rw [← hcc]
  have HCC := Lib.hid hcc
  have c1 : ∀ V, Below w.heap.size w V → V.cell? ⟨R, 1, none⟩ = some (.slice oa n cap) := fun V hV => (cell_of_row _ _ 1 _ _ _ ((hV.block _ (lt_of_rowR hrow)).trans hrow)).trans rfl
  have c0 : ∀ V, Below w.heap.size w V → V.cell? ⟨R, 0, none⟩ = some (.slice ob m cap2) := fun V hV => (cell_of_row _ _ 0 _ _ _ ((hV.block _ (lt_of_rowR hrow)).trans hrow)).trans rfl
  have HX := Lib.hid hx
  have HN := Lib.hid hn
  have HX2 := Lib.hid hx2
  have HN2 := Lib.hid hm
  have C1 := Lib.hid c1
  have C0 := Lib.hid c0
  have HRI := Lib.hid h
  have OWN0 := Lib.hid ((own_new w 86 7 encNw w.heap.size (Nat.le_refl _)).alloc (.cells #[] (89 : Nat)))
  have BB0 := Lib.hid (((Below.refl w.heap.size w).alloc (Nat.le_refl _) (.cells #[] 86)).alloc (by rw [alloc_sizeR]; omega) (.cells #[] (89 : Nat)))
  have HST : Hid (((w.alloc (.cells #[] 86)).alloc (.cells #[] (89 : Nat))).heap[w.heap.size + 1]? = some (.cells #[] 89 (0, 0))) := Lib.hid (by have := heap_alloc_new (w.alloc (.cells #[] 86)) (.cells #[] (89 : Nat)); rw [alloc_sizeR] at this; exact this)
  clear hx hn hx2 hm hrow c1 c0 h hcc
  go_enter Try.func24, Try.ntmps24
  go_wp2_with fail
  go_loopw [7, 5] (fun iv ov wr => ∃ (s : Nat) (M : List (ByteArray × Ent)) (lv : Value), s ≤ n ∧ iv = .int .i64 s ∧ lv = ov ∧ M = (L.take s).filter (offN sg) ∧ OwnL w.heap.size 86 7 encNw wr lv M ∧ (∀ g, some g = lv.ownBlock → g ≠ w.heap.size + 1) ∧ wr.heap[w.heap.size + 1]? = some (.cells #[] 89 (0, 0)) ∧ Below w.heap.size w wr) (fun iv _ _ => n - (intOf iv).toNat)
  case atStart => exact ⟨0, [], _, by omega, rfl, rfl, rfl, OWN0.out, fun g hg => by have e := own_blk hg; omega, HST.out, BB0.out⟩
  case round =>
    obtain ⟨s, M, lv, hs', rfl, rfl, hM, hown, hnb, hbk, hb⟩ := hrel
    have OWN := Lib.hid hown
    have BL := Lib.hid hb
    have NB := Lib.hid hnb
    have BK := Lib.hid hbk
    have c1 := C1.out wr hb
    have HMM := Lib.hid hM
    have hMl : M.length ≤ 1000000 := by rw [hM]; exact Nat.le_trans (List.length_filter_le _ _) (by rw [List.length_take]; omega)
    clear hown hb hM hnb hbk
    by_cases hlt : s < n
    · have hkn : (s : Int) < (n : Int) := by omega
      have hsl : s < L.length := by have := HN.out; omega
      obtain ⟨b, off, hoa, hc⟩ := HX.out s hsl
      obtain ⟨x, hxx⟩ : ∃ x, x = L[s] := ⟨_, rfl⟩
      rw [← hxx] at hc
      have hlc := lt_of_cellR (hc 0 _ rfl)
      have xc : ∀ V, Below w.heap.size w V → ∀ j u, (encNw x)[j]? = some u → V.cell? ⟨b, off + s * 7 + j, none⟩ = some u := fun V hV j u hu => (hV.cell (p := ⟨b, off + s * 7 + j, none⟩) hlc).trans (hc j u hu)
      have HXX := Lib.hid hxx
      subst hoa
      clear hc hlc hxx

      have hst := filter_step (offN sg) hsl
      rw [← HMM.out, ← HXX.out] at hst
      have HSTP := Lib.hid hst
      have WJ := Lib.hid (wrI s (by omega))
      obtain ⟨xi, ⟨xv, xd, xl, xz, xg, xs⟩⟩ := x
      have x0 := xc wr BL.out 0 _ rfl
      rw [Nat.add_zero] at x0
      have x1 := xc wr BL.out 1 _ rfl
      have x2 := xc wr BL.out 2 _ rfl
      have x3 := xc wr BL.out 3 _ rfl
      have x4 := xc wr BL.out 4 _ rfl
      have x5 := xc wr BL.out 5 _ rfl
      have x6 := xc wr BL.out 6 _ rfl

      clear xc hst
      by_cases hg : xg = sg
      · have HST2 : Hid ((L.take (s + 1)).filter (offN sg) = M) := Lib.hid (by rw [HSTP.out]; simp [offN, hg])
        have g1 : (xg = sg) = True := eq_true hg
        have g2 : (xg != sg) = false := by rw [hg]; exact bne_self_eq_false _
        have g3 : (xg == sg) = true := by rw [hg]; exact beq_self_eq_true _
        clear hg
        go_wp2_with fail
        go_roundw
        case rel => exact ⟨s + 1, _, _, by omega, by first | rfl | (rw [WJ.out]), rfl, HST2.out.symm, OWN.out, NB.out, BK.out, BL.out⟩
        case measure => (try rw [WJ.out]); simp only [intOf, Int.toNat_natCast]; omega
      · have HST2 : Hid ((L.take (s + 1)).filter (offN sg) = M ++ [(xi, (⟨xv, xd, xl, xz, xg, xs⟩ : Ent))]) := Lib.hid (by rw [HSTP.out]; simp [offN, hg])
        have g1 : (xg = sg) = False := eq_false hg
        have g2 : (xg != sg) = true := bne_iff_ne.2 hg
        have g3 : (xg == sg) = false := beq_eq_false_iff_ne.2 hg
        clear hg
        obtain ⟨ii, zz, i1, i2, i3, i4, i5⟩ := nw_info
        have I1a := Lib.hid i1
        have I2a := Lib.hid i2
        have I3a := Lib.hid i3
        have I4a := Lib.hid i4
        have I5a := Lib.hid i5
        have HNWa := Lib.hid (heap_alloc_new wr (.cells #[.string xi, .int .u64 (xv : Int), .int .u64 (xd : Int), .bool xl, .int .i64 xz, .int .i64 xg, .int .i64 xs] (86 : Nat)))
        have HSa := Lib.hid (alloc_sizeR wr (.cells #[.string xi, .int .u64 (xv : Int), .int .u64 (xd : Int), .bool xl, .int .i64 xz, .int .i64 xg, .int .i64 xs] (86 : Nat)))
        have OWAa := Lib.hid ((OWN.out).alloc (.cells #[.string xi, .int .u64 (xv : Int), .int .u64 (xd : Int), .bool xl, .int .i64 xz, .int .i64 xg, .int .i64 xs] (86 : Nat)))
        clear i1 i2 i3 i4 i5
        go_wp2_with (at_builtin; go_loud (refine wpList_append_lies _ rfl _ _ 27 rfl w.heap.size 86 ii zz 7 64 Try.underlying27 I1a.out I2a.out I3a.out I4a.out I5a.out (by decide) lv M.length (M.flatMap encNw) rfl ?q1h0 ⟨wr.heap.size, 0, none⟩ 1 1 [.string xi, .int .u64 (xv : Int), .int .u64 (xd : Int), .bool xl, .int .i64 xz, .int .i64 xg, .int .i64 xs] rfl rfl ?q1h1 ?q1h2 ?q1h3 ?q1h4 ?q1h5 ?q1h6 _ rfl ?_))
        case q1h0 => exact OWAa.out
        (try case q1h1 => exact World.news_of_block HNWa.out)
        case q1h2 => simp [Value.oneCell']
        (try case q1h3 => decide)
        case q1h4 => simp only [maxLen]; omega
        case q1h5 => omega
        case q1h6 => have := BL.out.size; have := HSa.out; omega
        intro ga capa wa howna hg hw hlt
        have owa : OwnL w.heap.size 86 7 encNw wa (.slice (some ⟨ga, 0, none⟩) (M.length + 1) capa) (M ++ [(xi, (⟨xv, xd, xl, xz, xg, xs⟩ : Ent))]) := by show World.ownsRow _ _ _ _ _ (M ++ [_]).length ((M ++ [_]).flatMap encNw); rw [flat_snoc, List.length_append]; exact howna
        have bwa := (BL.out.trans ((Below.refl _ _).alloc BL.out.size _)).trans (below_grownR hg (fun k hk => (own_geR OWAa.out k hk).1) (by have := BL.out.size; have := HSa.out; omega))
        obtain ⟨lva, hlva⟩ : ∃ v, v = Value.slice (some ⟨ga, 0, none⟩) (M.length + 1) capa := ⟨_, rfl⟩
        rw [← hlva] at owa ⊢
        have OWa := Lib.hid owa
        have BWa := Lib.hid bwa
        clear howna hlt owa bwa

        have hsz1 : w.heap.size + 1 < wr.heap.size := lt_of_rowR BK.out
        have BKa := Lib.hid ((hg.block (w.heap.size + 1) (by rw [HSa.out]; omega) (fun e => NB.out _ e rfl)).trans ((heap_alloc_old _ _ hsz1).trans BK.out))
        have NBa : Hid (∀ g, some g = lva.ownBlock → g ≠ w.heap.size + 1) := Lib.hid (fun g hgg => by
          rw [hlva] at hgg
          have e2 : g = ga := own_blk hgg
          subst e2
          rcases hw with hw | hw
          · exact NB.out _ hw.symm
          · have := HSa.out; omega)
        clear hg hw hsz1 hlva x0 x1 x2 x3 x4 x5 x6 c1 g1 g2 g3
        go_wp2_with fail
        go_roundw
        case rel => exact ⟨s + 1, _, _, by omega, by first | rfl | (rw [WJ.out]), rfl, HST2.out.symm, OWa.out, NBa.out, BKa.out, BWa.out⟩
        case measure => (try rw [WJ.out]); simp only [intOf, Int.toNat_natCast]; omega
    · have hkn : ¬ (s : Int) < (n : Int) := by omega
      have ht : L.take s = L := List.take_of_length_le (by have := HN.out; omega)
      have hM2 : M = L.filter (offN sg) := by rw [HMM.out, ht]
      subst hM2
      obtain ⟨M, hM⟩ : ∃ M, M = L.filter (offN sg) := ⟨_, rfl⟩
      rw [← hM] at OWN hMl HMM
      have HMF := Lib.hid hM
      have OWS0 : Hid (OwnL w.heap.size 89 3 encSt wr (.slice (some ⟨w.heap.size + 1, 0, none⟩) 0 0) []) := Lib.hid ⟨by simp, Or.inr ⟨w.heap.size + 1, 0, #[], rfl, by omega, BK.out, Nat.le_refl _, by simp [maxLen], by simp, by simp⟩⟩
      rename World => wo
      clear ht hM hlt
      go_wp2_with fail
      go_loopw [8, 6] (fun iv ov wr => ∃ (s : Nat) (M' : List (Plc × ByteArray)) (l2 : Value), s ≤ m ∧ iv = .int .i64 s ∧ l2 = ov ∧ M' = (S.take s).filter (offQ sg) ∧ OwnL w.heap.size 89 3 encSt wr l2 M' ∧ OwnL w.heap.size 86 7 encNw wr lv M ∧ (∀ g, some g = l2.ownBlock → some g ≠ lv.ownBlock) ∧ Below w.heap.size w wr) (fun iv _ _ => m - (intOf iv).toNat)
      case atStart => exact ⟨0, [], _, by omega, rfl, rfl, rfl, OWS0.out, OWN.out, fun g hg e => NB.out _ e (own_blk hg), BL.out⟩
      case round =>
        obtain ⟨s, M', l2, hs', rfl, rfl, hM, hown, hownL, hap, hb⟩ := hrel
        have OW2 := Lib.hid hown
        have OWL := Lib.hid hownL
        have AP := Lib.hid hap
        have BL := Lib.hid hb
        have c0 := C0.out wr hb
        have HMM := Lib.hid hM
        have hM2l : M'.length ≤ 1000000 := by rw [hM]; exact Nat.le_trans (List.length_filter_le _ _) (by rw [List.length_take]; omega)
        clear hown hownL hap hb hM
        by_cases hlt : s < m
        · have hkn : (s : Int) < (m : Int) := by omega
          have hsl : s < S.length := by have := HN2.out; omega
          obtain ⟨b, off, hoa, hc⟩ := HX2.out s hsl
          obtain ⟨x, hxx⟩ : ∃ x, x = S[s] := ⟨_, rfl⟩
          rw [← hxx] at hc
          have hlc := lt_of_cellR (hc 0 _ rfl)
          have xc : ∀ V, Below w.heap.size w V → ∀ j u, (encSt x)[j]? = some u → V.cell? ⟨b, off + s * 3 + j, none⟩ = some u := fun V hV j u hu => (hV.cell (p := ⟨b, off + s * 3 + j, none⟩) hlc).trans (hc j u hu)
          have HXX := Lib.hid hxx
          subst hoa
          clear hc hlc hxx

          have hst := filter_step (offQ sg) hsl
          rw [← HMM.out, ← HXX.out] at hst
          have HSTP := Lib.hid hst
          have WJ := Lib.hid (wrI s (by omega))
          obtain ⟨⟨xg, xs⟩, xi⟩ := x
          have x0 := xc wr BL.out 0 _ rfl
          rw [Nat.add_zero] at x0
          have x1 := xc wr BL.out 1 _ rfl
          have x2 := xc wr BL.out 2 _ rfl

          clear xc hst
          by_cases hg : xg = sg
          · have HST2 : Hid ((S.take (s + 1)).filter (offQ sg) = M') := Lib.hid (by rw [HSTP.out]; simp [offQ, hg])
            have g1 : (xg = sg) = True := eq_true hg
            have g2 : (xg != sg) = false := by rw [hg]; exact bne_self_eq_false _
            have g3 : (xg == sg) = true := by rw [hg]; exact beq_self_eq_true _
            clear hg
            go_wp2_with fail
            go_roundw
            case rel => exact ⟨s + 1, _, _, by omega, by first | rfl | (rw [WJ.out]), rfl, HST2.out.symm, OW2.out, OWL.out, AP.out, BL.out⟩
            case measure => (try rw [WJ.out]); simp only [intOf, Int.toNat_natCast]; omega
          · have HST2 : Hid ((S.take (s + 1)).filter (offQ sg) = M' ++ [((xg, xs), xi)]) := Lib.hid (by rw [HSTP.out]; simp [offQ, hg])
            have g1 : (xg = sg) = False := eq_false hg
            have g2 : (xg != sg) = true := bne_iff_ne.2 hg
            have g3 : (xg == sg) = false := beq_eq_false_iff_ne.2 hg
            clear hg
            obtain ⟨ii, zz, i1, i2, i3, i4, i5⟩ := st_info
            have I1a := Lib.hid i1
            have I2a := Lib.hid i2
            have I3a := Lib.hid i3
            have I4a := Lib.hid i4
            have I5a := Lib.hid i5
            have HNWa := Lib.hid (heap_alloc_new wr (.cells #[.string xi, .int .i64 xg, .int .i64 xs] (89 : Nat)))
            have HSa := Lib.hid (alloc_sizeR wr (.cells #[.string xi, .int .i64 xg, .int .i64 xs] (89 : Nat)))
            have OWAa := Lib.hid ((OW2.out).alloc (.cells #[.string xi, .int .i64 xg, .int .i64 xs] (89 : Nat)))
            clear i1 i2 i3 i4 i5
            go_wp2_with (at_builtin; go_loud (refine wpList_append_lies _ rfl _ _ 26 rfl w.heap.size 89 ii zz 3 32 Try.underlying26 I1a.out I2a.out I3a.out I4a.out I5a.out (by decide) l2 M'.length (M'.flatMap encSt) rfl ?q2h0 ⟨wr.heap.size, 0, none⟩ 1 1 [.string xi, .int .i64 xg, .int .i64 xs] rfl rfl ?q2h1 ?q2h2 ?q2h3 ?q2h4 ?q2h5 ?q2h6 _ rfl ?_))
            case q2h0 => exact OWAa.out
            (try case q2h1 => exact World.news_of_block HNWa.out)
            case q2h2 => simp [Value.oneCell']
            (try case q2h3 => decide)
            case q2h4 => simp only [maxLen]; omega
            case q2h5 => omega
            case q2h6 => have := BL.out.size; have := HSa.out; omega
            intro ga capa wa howna hg hw hlt
            have owa : OwnL w.heap.size 89 3 encSt wa (.slice (some ⟨ga, 0, none⟩) (M'.length + 1) capa) (M' ++ [((xg, xs), xi)]) := by show World.ownsRow _ _ _ _ _ (M' ++ [_]).length ((M' ++ [_]).flatMap encSt); rw [flat_snoc, List.length_append]; exact howna
            have bwa := (BL.out.trans ((Below.refl _ _).alloc BL.out.size _)).trans (below_grownR hg (fun k hk => (own_geR OWAa.out k hk).1) (by have := BL.out.size; have := HSa.out; omega))
            obtain ⟨lva, hlva⟩ : ∃ v, v = Value.slice (some ⟨ga, 0, none⟩) (M'.length + 1) capa := ⟨_, rfl⟩
            rw [← hlva] at owa ⊢
            have OWa := Lib.hid owa
            have BWa := Lib.hid bwa
            clear howna hlt owa bwa

            have OWLa := Lib.hid (((OWL.out).alloc (.cells #[.string xi, .int .i64 xg, .int .i64 xs] (89 : Nat))).kept hg (apartR (fun k hk e => AP.out k e hk)))
            have APa : Hid (∀ g, some g = lva.ownBlock → some g ≠ lv.ownBlock) := Lib.hid (fun g hgg e => by
              rw [hlva] at hgg
              have e2 : g = ga := own_blk hgg
              subst e2
              rcases hw with hw | hw
              · exact AP.out _ hw.symm e
              · have h1 := (own_geR OWL.out _ e).2
                have := HSa.out
                omega)
            clear hg hw hlva x0 x1 x2 c0 g1 g2 g3
            go_wp2_with fail
            go_roundw
            case rel => exact ⟨s + 1, _, _, by omega, by first | rfl | (rw [WJ.out]), rfl, HST2.out.symm, OWa.out, OWLa.out, APa.out, BWa.out⟩
            case measure => (try rw [WJ.out]); simp only [intOf, Int.toNat_natCast]; omega
        · have hkn : ¬ (s : Int) < (m : Int) := by omega
          have ht : S.take s = S := List.take_of_length_le (by have := HN2.out; omega)
          have hM3 : M' = S.filter (offQ sg) := by rw [HMM.out, ht]
          have FIN := Lib.hid (HRI.out.setLS BL.out OWL.out OW2.out AP.out)
          obtain ⟨o1, q1, hl1⟩ := (own_lr (k := 7) (enc := encNw) (fun _ => rfl) OWL.out).form
          obtain ⟨o2, q2, hl2⟩ := (own_lr (k := 3) (enc := encSt) (fun _ => rfl) OW2.out).form
          obtain ⟨m1, hm1⟩ : ∃ z, z = M.length := ⟨_, rfl⟩
          obtain ⟨m2, hm2⟩ : ∃ z, z = M'.length := ⟨_, rfl⟩
          rw [← hm1] at hl1
          rw [← hm2] at hl2
          have hcc2 : wrap64 ((m : Int) - (m2 : Int)) = cc := by
            have e : (m : Int) - (m2 : Int) = cc := by rw [HCC.out, hm2, hM3]; rfl
            rw [e]
            exact IntWalk.wrap64_in _ (by omega)
          have RES : Hid (∃ lS lL, RI ((wr.setCell ⟨R, 1, none⟩ lv).setCell ⟨R, 0, none⟩ l2) R lS lL (S.filter (offQ sg)) (L.filter (offN sg))) := Lib.hid ⟨l2, lv, by have h := FIN.out.1; rw [HMF.out, hM3] at h; exact h⟩
          have rowr := (HRI.out.below BL.out).row
          have fz := frozen_of_row _ _ 1 _ _ rowr
          have r1 : (wr.setCell ⟨R, 1, none⟩ lv).heap[R]? = _ := heap_setCell_same _ _ _ _ _ _ rowr
          have fz0 := frozen_of_row _ _ 0 _ _ r1
          have c1 := C1.out wr BL.out
          have c01 := cell_of_row _ _ 0 _ _ _ r1
          subst hl1 hl2
          clear hm1 hm2 hM3 ht rowr r1 hMl hM2l
          go_wp2_with fail
          go_ret
          exact ⟨rfl, RES.out, FIN.out.2⟩
end Go.Proofs.Ythpompgcnemanaa.G
