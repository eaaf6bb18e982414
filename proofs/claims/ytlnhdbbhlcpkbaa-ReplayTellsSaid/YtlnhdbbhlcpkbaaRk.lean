/- The document's newest records, and the sessions that live. -/
import Derived.Test.YtlnhdbbhlcpkbaaRx
import Derived.Test.YtlnhdbbhlcpkbaaGFast
import Derived.Test.YtlnhdbbhlcpkbaaGTail
import Derived.BigQuiet
namespace Go.Proofs.Ytlnhdbbhlcpkbaa.G
open Go.RowKit Go.Maps Go.Proofs.Ytlnhdbbhlcpkbaa.WordPlain Go.Proofs.Ytlnhdbbhlcpkbaa.Loose
set_option linter.unusedVariables false
set_option linter.unusedSimpArgs false

/-- records that lie somewhere are put behind those of an own row -/
theorem own_appF (W : World) (base : Nat) (v u : Value) (l M : List Rec) (hown : OwnL base 50 7 encR W v l) (hu : LR 7 encR W u M) (hs : SlV u) (h6 : l.length + M.length ≤ 1000000) (hb : base ≤ W.heap.size) :
    ∃ v' w', (Builtin.append_ #[26, 26] 26 #[v, u]).run Try.prog W = .ok v' w' ∧ OwnL base 50 7 encR w' v' (l ++ M) ∧ Below base W w' := by
  obtain ⟨ii, zz, i1, i2, i3, i4, i5⟩ := refrec_info
  obtain ⟨oa, cap, rfl, _, hx⟩ := hu
  rcases hs with hs | ⟨a, n, c, hs⟩
  · injection hs with e1 e2 e3
    subst e1 e3
    have hM : M = [] := List.length_eq_zero_iff.1 e2
    subst hM
    refine ⟨v, W, run_append_owned_none W base 26 26 50 ii 7 Try.underlying26 i1 v l.length (l.flatMap encR) hown, ?_, Below.refl _ _⟩
    rw [List.append_nil]; exact hown
  · injection hs with e1 e2 e3
    subst e1 e3
    obtain ⟨v', w', hr, ho, hg, _, _⟩ := run_append_own_at (P := Try.prog) W base 26 26 50 ii zz 7 72 Try.underlying26 i1 i2 i3 i4 i5 (by decide) v l.length (l.flatMap encR) hown a M.length cap (M.flatMap encR) (flat_lenR M)
      (fun j u hu => by
        have hj : j < M.length * 7 := by
          rcases Nat.lt_or_ge j (M.flatMap encR).length with h | h
          · rw [flat_lenR] at h; exact h
          · rw [List.getElem?_eq_none h] at hu; cases hu
        have hi : j / 7 < M.length := by omega
        have e := flat_at 7 encR encR_len M (j / 7) (j % 7) hi (Nat.mod_lt _ (by decide))
        rw [show j / 7 * 7 + j % 7 = j by omega, hu] at e
        obtain ⟨b, off, ha, hc⟩ := hx (j / 7) hi
        injection ha with ha
        subst ha
        rw [add_noneR, show off + j = off + j / 7 * 7 + j % 7 by omega]
        exact hc _ _ e.symm) (encR_one M) (by simp only [maxLen]; omega) (by omega) hb
    refine ⟨v', w', hr, ?_, below_grownR hg (fun k hk => (own_geR hown k hk).1) hb⟩
    show w'.ownsRow _ _ _ _ (l ++ M).length ((l ++ M).flatMap encR)
    rw [List.length_append, List.flatMap_append]
    exact ho
theorem sl_fromF (W : World) (g off len cap p : Nat) (hp : p ≤ len) (hc : p < cap) :
    (Instr.sliceAt 26 (.slice (some ⟨g, off, none⟩) len cap) (some (.int .i64 (p : Int))) none none).run Try.prog W = .ok (.slice (some ⟨g, off + p * 7, none⟩) (len - p) (cap - p)) W := by
  have ht := Try.underlying26
  have he : Try.prog.elem 26 = 50 := by simp [Program.elem, ht]
  have ht' : Try.prog.underlying 26 = some (.slice (Try.prog.elem 26)) := by rw [he]; exact ht
  rw [run_sliceAt_slice _ _ _ _ _ _ ht', run_slice_l (P := Try.prog) W 26 (some ⟨g, off, none⟩) len cap ht' .i64 (p : Int) (by omega) (by omega), he]
  obtain ⟨ii, z, h1, _, h3, _, _⟩ := refrec_info
  simp only [sizeOf, typeInfo]
  simp [h1, h3, sliced, add_noneR]
  omega
theorem sl_endF (W : World) (g off c : Nat) :
    (Instr.sliceAt 26 (.slice (some ⟨g, off, none⟩) c c) (some (.int .i64 (c : Int))) none none).run Try.prog W = .ok (.slice (some ⟨g, off, none⟩) 0 0) W := by
  have ht := Try.underlying26
  have he : Try.prog.elem 26 = 50 := by simp [Program.elem, ht]
  have ht' : Try.prog.underlying 26 = some (.slice (Try.prog.elem 26)) := by rw [he]; exact ht
  rw [run_sliceAt_slice _ _ _ _ _ _ ht', run_slice_l (P := Try.prog) W 26 (some ⟨g, off, none⟩) c c ht' .i64 (c : Int) (by omega) (by omega), he]
  obtain ⟨ii, z, h1, _, h3, _, _⟩ := refrec_info
  simp only [sizeOf, typeInfo]
  simp [h1, h3, sliced, Addr.add]
theorem lr_dropF {w : World} {b off n cap c' p : Nat} {L : List Rec} (h : LR 7 encR w (.slice (some ⟨b, off, none⟩) n cap) L) (hc : n - p ≤ c') : LR 7 encR w (.slice (some ⟨b, off + p * 7, none⟩) (n - p) c') (L.drop p) := by
  obtain ⟨oa, cap', h1, h2, h3⟩ := h
  injection h1 with e1 e2 e3
  subst e1 e2 e3
  refine ⟨_, c', by rw [List.length_drop], fun _ => by rw [List.length_drop]; exact hc, fun i hi => ?_⟩
  rw [List.length_drop] at hi
  obtain ⟨b', off', e, hx⟩ := h3 (p + i) (by omega)
  injection e with e
  injection e with e1 e2
  subst e1 e2
  refine ⟨_, _, rfl, fun j u hu => ?_⟩
  rw [List.getElem_drop] at hu
  have := hx j u hu
  rw [show off + p * 7 + i * 7 + j = off + (p + i) * 7 + j by omega]
  exact this
theorem bless (a b : ByteArray) : Op.bytesLess a.toList b.toList = decide (bl8 a < bl8 b) := by rw [Go.Proofs.bytesLess_eq, ByteArray.toList_eq, ByteArray.toList_eq]
theorem own_weakF {w : World} {base base' k : Nat} {e : TypeId} {enc : Rec → List Value} {v : Value} {l : List Rec} (h : OwnL base e k enc w v l) (hb : base' ≤ base) : OwnL base' e k enc w v l := by
  obtain ⟨h0, h | ⟨g, cap, cur, h1, h2, h3⟩⟩ := h
  · exact ⟨h0, Or.inl h⟩
  · exact ⟨h0, Or.inr ⟨g, cap, cur, h1, Nat.le_trans hb h2, h3⟩⟩
theorem own_someF {w : World} {base k : Nat} {e : TypeId} {enc : Rec → List Value} {v : Value} {l : List Rec} (h : OwnL base e k enc w v l) (hl : l ≠ []) : ∃ g c, v = .slice (some ⟨g, 0, none⟩) l.length c ∧ l.length ≤ c := by
  obtain ⟨h0, ⟨_, h⟩ | ⟨g, cap, cur, h1, h2, h3, h4, _⟩⟩ := h
  · exact absurd (List.length_eq_zero_iff.1 h) hl
  · exact ⟨g, cap, h1, h4⟩
theorem lt_stepF {M : List Rec} {t : Nat} {i : ByteArray} (h : ∀ x ∈ M.take t, bl8 x.id < bl8 i) (ht : t < M.length) (hx : bl8 M[t].id < bl8 i) : ∀ x ∈ M.take (t + 1), bl8 x.id < bl8 i := by
  intro x hm
  rw [List.take_succ_eq_append_getElem ht] at hm
  rcases List.mem_append.1 hm with hm | hm
  · exact h x hm
  · rw [List.mem_singleton.1 hm]; exact hx
set_option maxRecDepth 100000 in
set_option maxHeartbeats 16000000 in
theorem rNewest_val (w : World) (v : Value) (l : List Rec) (h : LR 7 encR w v l) (hl : l.length ≤ 1000) :
    Calls Try.prog 13 #[v] w fun e w' => (∃ u, e = .returned u ∧ OwnL w.heap.size 50 7 encR w' u (newL l)) ∧ Below w.heap.size w w' := by
  have HH := Lib.hid h
  obtain ⟨oa, cap, rfl, _, hx⟩ := h
  obtain ⟨n, hn⟩ : ∃ n, n = l.length := ⟨_, rfl⟩
  rw [← hn] at hl HH ⊢
  have AT := Lib.hid hx
  have HN := Lib.hid hn
  have h0 := own_new w 50 7 encR w.heap.size (Nat.le_refl _)
  have hb0 := (Below.refl w.heap.size w).alloc (Nat.le_refl _) (.cells #[] 50)
  have H0 := Lib.hid h0
  have HB0 := Lib.hid hb0
  clear hx hn h0 hb0
  go_enter Try.func13, Try.ntmps13
  go_wp2_with fail
  go_loopw [3, 4] (fun o i wr => ∃ (q : Nat) (lv : Value) (gM cM : Nat), q ≤ n ∧ i = .int .i64 q ∧ lv = o ∧ lv = .slice (some ⟨gM, 0, none⟩) (outL l q).length cM ∧ (outL l q).length ≤ cM ∧ OwnL w.heap.size 50 7 encR wr lv (outL l q) ∧ Below w.heap.size w wr) (fun _ i _ => n - (intOf i).toNat)
  case atStart => exact ⟨0, _, _, _, by omega, rfl, rfl, rfl, Nat.le_refl _, H0.out, HB0.out⟩
  case round =>
    obtain ⟨q, lv, gM, cM, hq, rfl, rfl, rfl, hmc, hown, hbl⟩ := hrel
    have OWN := Lib.hid hown
    have HB := Lib.hid hbl
    clear hown hbl
    by_cases hlt : q < n
    · have hkn : (q : Int) < (n : Int) := by omega
      have hql : q < l.length := by have := HN.out; omega
      obtain ⟨b, off, hoa, hc⟩ := AT.out q hql
      subst hoa
      have WJ := Lib.hid (wrR q (by omega))
      have rv := rIs_val wr b off n cap q l (HH.out.below HB.out (Nat.le_refl _)) HN.out hql (by have := HN.out; omega)
      have hst := outL_step hql
      have hM1 := outL_len l q (by have := HN.out; omega)
      obtain ⟨M, hM⟩ : ∃ M, M = outL l q := ⟨_, rfl⟩
      rw [← hM] at OWN hmc hst hM1 ⊢
      obtain ⟨m, hm⟩ : ∃ m, m = M.length := ⟨_, rfl⟩
      rw [← hm] at OWN hmc hM1 ⊢
      have HM := Lib.hid hm
      have HMC := Lib.hid hmc
      have HM1000 := Lib.hid (show m ≤ 1000 by omega)
      by_cases hp : IsP l q
      · rw [decide_eq_true hp] at rv
        rw [if_pos hp] at hst
        have hne := outL_ne hp
        rw [← hM] at hne
        obtain ⟨r, hr⟩ : ∃ r, r = l[q] := ⟨_, rfl⟩
        rw [← hr] at hc hst hne
        have RV := Lib.hid rv
        have HNX := Lib.hid hst
        have HNE := Lib.hid hne
        have HC := Lib.hid hc
        clear rv hp hst hne hc hr hmc hm hM hM1
        go_wp2_with fail
        refine RV.out.mono ?_; rintro e w2 ⟨rfl, b2⟩
        have HBX := Lib.hid (stepR HB.out b2)
        have own2 : OwnL w.heap.size 50 7 encR w2 (.slice (some ⟨gM, 0, none⟩) m cM) M := OWN.out.kept (grown_belowR b2) (apartR (by simp))
        have LM := Lib.hid (own_lr (k := 7) (enc := encR) (fun _ => rfl) own2)
        have XCR := Lib.hid (show ∀ V, Below w2.heap.size w2 V → ∀ j u, (encR r)[j]? = some u → V.cell? ⟨b, off + q * 7 + j, none⟩ = some u from fun V hV j u hu => ((stepR HBX.out hV).cell (p := ⟨b, off + q * 7 + j, none⟩) (lt_of_cellR (HC.out j u hu))).trans (HC.out j u hu))
        have hn0 := own_new w2 50 7 encR w2.heap.size (Nat.le_refl _)
        have hnb := (Below.refl w2.heap.size w2).alloc (Nat.le_refl _) (.cells #[] 50)
        have N0 := Lib.hid hn0
        have NB := Lib.hid hnb
        clear b2 own2 hn0 hnb RV HB HC OWN
        go_wp2_with fail
        go_loopw [5, 6] (fun o kk wi => ∃ (t : Nat) (lu : Value), t ≤ m ∧ kk = .int .i64 t ∧ lu = o ∧ OwnL w2.heap.size 50 7 encR wi lu (M.take t) ∧ (∀ x ∈ M.take t, bl8 x.id < bl8 r.id) ∧ Below w2.heap.size w2 wi) (fun _ kk _ => m - (intOf kk).toNat)
        case atStart => exact ⟨0, _, by omega, rfl, rfl, N0.out, (by simp), NB.out⟩
        case round =>
          obtain ⟨t, lu, htm, rfl, rfl, howi, hlts, hbi⟩ := hrel
          have OWI := Lib.hid howi
          have HLTS := Lib.hid hlts
          have HBI := Lib.hid hbi
          clear howi hlts hbi
          have y5 := cell_regrown (XCR.out wr HBI.out 5 (.string r.id) rfl)
          by_cases htl : t < m
          · have hkm : (t : Int) < (m : Int) := by omega
            have htM : t < M.length := by have := HM.out; omega
            have WT := Lib.hid (wrR t (by have := HM1000.out; omega))
            obtain ⟨oM', cM', hf, _, hxM⟩ := LM.out
            injection hf with e1 e2 e3
            obtain ⟨gb, go, hoM, hxc⟩ := hxM t htM
            rw [hoM] at e1
            injection e1 with e1
            injection e1 with e1 e4
            subst e1 e4
            have hst := fun h => lt_stepF HLTS.out htM h
            have htk : M.take (t + 1) = M.take t ++ [M[t]] := List.take_succ_eq_append_getElem htM
            obtain ⟨x, hx⟩ : ∃ x, x = M[t] := ⟨_, rfl⟩
            rw [← hx] at hxc hst htk
            have XC := Lib.hid (show ∀ V, Below wr.heap.size wr V → ∀ j u, (encR x)[j]? = some u → V.cell? ⟨gM, 0 + t * 7 + j, none⟩ = some u from fun V hV j u hu => ((stepR HBI.out hV).cell (p := ⟨gM, 0 + t * 7 + j, none⟩) (lt_of_cellR (hxc j u hu))).trans (hxc j u hu))
            have HX := Lib.hid hx
            have HST := Lib.hid hst
            have HTK := Lib.hid htk
            have hln : (M.take t).length = t := by rw [List.length_take, ← HM.out]; omega
            have x5 := cell_regrown (show wr.cell? ⟨gM, t * 7 + 5, none⟩ = some (.string x.id) by have := XC.out wr (Below.refl _ _) 5 (.string x.id) rfl; rw [Nat.zero_add] at this; exact this)
            have HLN := Lib.hid hln
            clear hxc hst hx htk hln hoM e2 e3 hxM
            cases hless : Op.bytesLess x.id.toList r.id.toList with
            | true =>
              have HLT2 := Lib.hid (HST.out (by have := hless; rw [bless] at this; exact of_decide_eq_true this))
              go_wp2_with fail
              refine Loose.wp_region_quiet_fast (by kernel_rfl) (by kernel_rfl) ?_
              (try simp only [List.append_eq, List.cons_append, List.nil_append])
              repeat (go_big_quiet_step (fail))
              refine wpQuiet_nil ?_
              intro _ hw'
              obtain ⟨⟨dq, osq⟩, hw''⟩ := hw'
              subst hw''
              clear x5 y5 hless
              have bQ := below_regrown wr dq osq
              obtain ⟨V, hV⟩ : ∃ V, V = Go.Sort.grow (Go.redrawn wr dq) osq := ⟨_, rfl⟩
              rw [← hV] at bQ
              rw [← hV]
              have s0 : V.cell? ⟨gM, t * 7, none⟩ = some (.int .u64 (x.lsn : Int)) := by have := XC.out V bQ 0 _ rfl; rw [Nat.zero_add] at this; exact this
              have s1 : V.cell? ⟨gM, t * 7 + 1, none⟩ = some (.int .u32 (x.ep : Int)) := by have := XC.out V bQ 1 _ rfl; rw [Nat.zero_add] at this; exact this
              have s2 : V.cell? ⟨gM, t * 7 + 2, none⟩ = some (.int .i64 x.kind) := by have := XC.out V bQ 2 _ rfl; rw [Nat.zero_add] at this; exact this
              have s3 : V.cell? ⟨gM, t * 7 + 3, none⟩ = some (.int .u64 (x.ver : Int)) := by have := XC.out V bQ 3 _ rfl; rw [Nat.zero_add] at this; exact this
              have s4 : V.cell? ⟨gM, t * 7 + 4, none⟩ = some (.int .u64 (x.dl : Int)) := by have := XC.out V bQ 4 _ rfl; rw [Nat.zero_add] at this; exact this
              have s5 : V.cell? ⟨gM, t * 7 + 5, none⟩ = some (.string x.id) := by have := XC.out V bQ 5 _ rfl; rw [Nat.zero_add] at this; exact this
              have s6 : V.cell? ⟨gM, t * 7 + 6, none⟩ = some (.string x.va) := by have := XC.out V bQ 6 _ rfl; rw [Nat.zero_add] at this; exact this
              have BV := Lib.hid (stepR HBI.out bQ)
              have OWV := Lib.hid (OWI.out.kept (grown_belowR bQ) (apartR (by simp)))
              obtain ⟨M2, hM2⟩ : ∃ M2, M2 = M.take t := ⟨_, rfl⟩
              rw [← hM2] at OWV HLN HTK
              clear bQ hV hM2
              obtain ⟨ii, zz, i1, i2, i3, i4, i5⟩ := refrec_info
              have I1 := Lib.hid i1
              have I2 := Lib.hid i2
              have I3 := Lib.hid i3
              have I4 := Lib.hid i4
              have I5 := Lib.hid i5
              have OWN0 := Lib.hid (OWV.out)
              have BEL0 := Lib.hid (BV.out)
              have HNW := Lib.hid (heap_alloc_new V (.cells (#[.int .u64 (x.lsn : Int), .int .u32 (x.ep : Int), .int .i64 x.kind, .int .u64 (x.ver : Int), .int .u64 (x.dl : Int), .string x.id, .string x.va]) 50))
              clear i1 i2 i3 i4 i5
              go_wp2_with (at_builtin; refine wpList_append_lies _ rfl _ _ 26 rfl w2.heap.size 50 ii zz 7 72 Try.underlying26 I1.out I2.out I3.out I4.out I5.out (by decide) lu M2.length (M2.flatMap encR) rfl ?a20 ⟨V.heap.size, 0, none⟩ 1 1 (#[.int .u64 (x.lsn : Int), .int .u32 (x.ep : Int), .int .i64 x.kind, .int .u64 (x.ver : Int), .int .u64 (x.dl : Int), .string x.id, .string x.va] : Array Value).toList rfl rfl ?a21 ?a22 ?a23 ?a24 ?a25 ?a26 _ rfl ?_)
              case a20 => exact World.ownsRow.alloc OWN0.out _
              (try case a21 => exact World.news_of_block HNW.out)
              case a22 => simp [Value.oneCell']
              case a23 => decide
              case a24 => simp only [maxLen]; have := And.intro HLN.out HM1000.out; omega
              case a25 => have := And.intro HLN.out HM1000.out; omega
              case a26 => have := BEL0.out.size; first | omega | (rw [alloc_sizeR]; omega)
              intro g cap5 w5 hown5 hg hw hlt5
              have hbw : Below w2.heap.size w2 w5 := (BEL0.out.trans ((Below.refl _ _).alloc BEL0.out.size _)).trans (below_grownR hg (fun k hk => (own_geR OWN0.out k hk).1) (by rw [alloc_sizeR]; have := BEL0.out.size; omega))
              have HBW := Lib.hid hbw
              have HOWN5 := Lib.hid hown5
              clear hbw hown5 hg hw hlt5
              clear s0 s1 s2 s3 s4 s5 s6
              go_wp2_with fail
              go_roundw
              case rel => exact ⟨t + 1, _, by omega, by first | rfl | (rw [WT.out]) | go_num, rfl, by rw [HTK.out]; show World.ownsRow _ _ _ _ _ (M2 ++ [_]).length ((M2 ++ [_]).flatMap encR); rw [flat_snoc, List.length_append]; exact HOWN5.out, HLT2.out, HBW.out⟩
              case measure => (try rw [WT.out]); simp only [intOf, Int.toNat_natCast]; omega
            | false =>
              have STOP : Hid (∀ h : t < M.length, ¬ bl8 M[t].id < bl8 r.id) := Lib.hid (fun h hh => by rw [← HX.out] at hh; have := hless; rw [bless] at this; exact absurd hh (of_decide_eq_false this))
              clear HTK HST HX
              go_wp2_with fail
              refine Loose.wp_region_quiet_fast (by kernel_rfl) (by kernel_rfl) ?_
              (try simp only [List.append_eq, List.cons_append, List.nil_append])
              repeat (go_big_quiet_step (fail))
              refine wpQuiet_nil ?_
              intro _ hw'
              obtain ⟨⟨dq, osq⟩, hw''⟩ := hw'
              subst hw''
              clear x5 y5 hless
              have bQ := below_regrown wr dq osq
              obtain ⟨V, hV⟩ : ∃ V, V = Go.Sort.grow (Go.redrawn wr dq) osq := ⟨_, rfl⟩
              rw [← hV] at bQ
              rw [← hV]
              have BV := Lib.hid (stepR HBI.out bQ)
              have owv := OWI.out.kept (grown_belowR bQ) (apartR (by simp))
              have hl0 := own_lr (k := 7) (enc := encR) (fun _ => rfl) owv
              obtain ⟨ol, cl, hlv⟩ := hl0.form
              have hlt_ : (M.take t).length = t := by rw [List.length_take, ← HM.out]; omega
              rw [hlt_] at hlv
              obtain ⟨M2, hM2⟩ : ∃ M2, M2 = M.take t := ⟨_, rfl⟩
              rw [← hM2] at owv
              subst hlv
              have hlen : M2.length = t := by rw [hM2, hlt_]
              have OWV : Hid (OwnL w2.heap.size 50 7 encR V (.slice ol t cl) M2) := Lib.hid owv
              have HM2 := Lib.hid hM2
              have HLEN := Lib.hid hlen
              have XR := XCR.out V BV.out
              have s0 : V.cell? ⟨b, off + q * 7, none⟩ = some (.int .u64 (r.lsn : Int)) := XR 0 _ rfl
              have s1 : V.cell? ⟨b, off + q * 7 + 1, none⟩ = some (.int .u32 (r.ep : Int)) := XR 1 _ rfl
              have s2r : V.cell? ⟨b, off + q * 7 + 2, none⟩ = some (.int .i64 r.kind) := XR 2 _ rfl
              have s3r : V.cell? ⟨b, off + q * 7 + 3, none⟩ = some (.int .u64 (r.ver : Int)) := XR 3 _ rfl
              have s4r : V.cell? ⟨b, off + q * 7 + 4, none⟩ = some (.int .u64 (r.dl : Int)) := XR 4 _ rfl
              have s5 : V.cell? ⟨b, off + q * 7 + 5, none⟩ = some (.string r.id) := XR 5 _ rfl
              have s6 : V.cell? ⟨b, off + q * 7 + 6, none⟩ = some (.string r.va) := XR 6 _ rfl
              have S2 : Hid (∃ u2, (∀ W, (Instr.sliceAt 26 (.slice (some ⟨gM, 0, none⟩) m cM) (some (.int .i64 (t : Int))) none none).run Try.prog W = .ok u2 W) ∧ (∀ W, LR 7 encR W (.slice (some ⟨gM, 0, none⟩) m cM) M → LR 7 encR W u2 (M.drop t)) ∧ SlV u2 ∧ ∃ x y z, u2 = .slice x y z) := Lib.hid (by
                by_cases hc : t < cM
                · exact ⟨_, fun W => sl_fromF W gM 0 m cM t htm hc, fun W h => lr_dropF h (by have := HMC.out; omega), Or.inr ⟨_, _, _, rfl⟩, _, _, _, rfl⟩
                · have e1 : t = cM := by have := HMC.out; omega
                  have e2 : m = cM := by have := HMC.out; omega
                  rw [e1]; (try rw [e2])
                  refine ⟨_, fun W => sl_endF W gM 0 cM, fun W _ => ?_, Or.inr ⟨_, _, _, rfl⟩, _, _, _, rfl⟩
                  rw [List.drop_of_length_le (by rw [← HM.out]; omega)]
                  exact LR.nil _ _ _ _ _)
              obtain ⟨u2, s2, s3, s4, x2_, y2_, z2_, hu2⟩ := S2.out
              subst hu2
              have S3 := Lib.hid s3
              have S4 := Lib.hid s4
              clear bQ hV owv hl0 hlt_ hM2 hlen XR OWI XCR S2 s3 s4
              obtain ⟨ii, zz, i1, i2, i3, i4, i5⟩ := refrec_info
              have I1 := Lib.hid i1
              have I2 := Lib.hid i2
              have I3 := Lib.hid i3
              have I4 := Lib.hid i4
              have I5 := Lib.hid i5
              have OWN0 := Lib.hid (OWV.out)
              have BEL0 := Lib.hid (BV.out)
              have HNW := Lib.hid (heap_alloc_new V (.cells (#[.int .u64 (r.lsn : Int), .int .u32 (r.ep : Int), .int .i64 r.kind, .int .u64 (r.ver : Int), .int .u64 (r.dl : Int), .string r.id, .string r.va]) 50))
              clear i1 i2 i3 i4 i5
              go_wp2_with (at_builtin; refine wpList_append_lies _ rfl _ _ 26 rfl w2.heap.size 50 ii zz 7 72 Try.underlying26 I1.out I2.out I3.out I4.out I5.out (by decide) (.slice ol t cl) M2.length (M2.flatMap encR) rfl ?a10 ⟨V.heap.size, 0, none⟩ 1 1 (#[.int .u64 (r.lsn : Int), .int .u32 (r.ep : Int), .int .i64 r.kind, .int .u64 (r.ver : Int), .int .u64 (r.dl : Int), .string r.id, .string r.va] : Array Value).toList rfl rfl ?a11 ?a12 ?a13 ?a14 ?a15 ?a16 _ rfl ?_)
              case a10 => exact World.ownsRow.alloc OWN0.out _
              (try case a11 => exact World.news_of_block HNW.out)
              case a12 => simp [Value.oneCell']
              case a13 => decide
              case a14 => simp only [maxLen]; have := And.intro HLEN.out HM1000.out; omega
              case a15 => have := And.intro HLEN.out HM1000.out; omega
              case a16 => have := BEL0.out.size; first | omega | (rw [alloc_sizeR]; omega)
              intro g cap5 w5 hown5 hg hw hlt5
              have hbw : Below w2.heap.size w2 w5 := (BEL0.out.trans ((Below.refl _ _).alloc BEL0.out.size _)).trans (below_grownR hg (fun k hk => (own_geR OWN0.out k hk).1) (by rw [alloc_sizeR]; have := BEL0.out.size; omega))
              have HBW := Lib.hid hbw
              have HOWN5 := Lib.hid hown5
              clear hbw hown5 hg hw hlt5
              clear s0 s1 s2r s3r s4r s5 s6
              obtain ⟨L5, hL5⟩ : ∃ x, x = M2 ++ [r] := ⟨_, rfl⟩
              have own6 : OwnL w2.heap.size 50 7 encR w5 (.slice (some ⟨g, 0, none⟩) (M2.length + 1) cap5) L5 := by
                rw [hL5]
                show World.ownsRow _ _ _ _ _ (M2 ++ [_]).length ((M2 ++ [_]).flatMap encR)
                rw [flat_snoc, List.length_append]
                exact HOWN5.out
              have hl5 : L5.length ≤ 1001 := by rw [hL5, List.length_append, HLEN.out]; have := HM1000.out; show t + 1 ≤ _; omega
              obtain ⟨v7, w7, r7, o7, b7⟩ := own_appF w5 w2.heap.size _ _ L5 (M.drop t) own6 (S3.out w5 (LM.out.below HBW.out (Nat.le_refl _))) S4.out (by rw [List.length_drop, ← HM.out]; have := HM1000.out; omega) HBW.out.size
              have eP : L5 ++ M.drop t = outL l (q + 1) := by
                rw [hL5, HM2.out, HNX.out, ← put2_ins r M t (by rw [← HM.out]; exact htm) HLTS.out STOP.out HNE.out]
                rfl
              rw [eP] at o7
              obtain ⟨g7, c7, hv7, hc7⟩ := own_someF o7 (by rw [← eP, hL5]; simp)
              subst hv7
              have R7 := Lib.hid r7
              have O7 := Lib.hid (own_weakF o7 (HBX.out.size))
              have B7 := Lib.hid (stepR HBX.out (HBW.out.trans b7))
              have HC7 := Lib.hid hc7
              have eN : Hid ((outL l (q + 1)).length = (outL l (q + 1)).length) := Lib.hid rfl
              clear own6 hl5 r7 o7 b7 eP hL5 hc7
              go_wp2_with (at_builtin; refine wpList_append_runR rfl _ _ 26 rfl _ _ _ w7 rfl rfl R7.out ?_)
              go_roundw
              case rel => exact ⟨q + 1, _, _, _, by omega, by first | rfl | (rw [WJ.out]) | go_num, rfl, rfl, HC7.out, O7.out, B7.out⟩
              case measure => (try rw [WJ.out]); simp only [intOf, Int.toNat_natCast]; omega
          · obtain rfl : t = m := by omega
            have hkm : ¬ (t : Int) < (t : Int) := by omega
            clear htl
            have STOP : Hid (∀ h : t < M.length, ¬ bl8 M[t].id < bl8 r.id) := Lib.hid (fun h => absurd h (by have := HM.out; omega))
            go_wp2_with fail
            refine Loose.wp_region_quiet_fast (by kernel_rfl) (by kernel_rfl) ?_
            (try simp only [List.append_eq, List.cons_append, List.nil_append])
            repeat (go_big_quiet_step (fail))
            refine wpQuiet_nil ?_
            intro _ hw'
            obtain ⟨⟨dq, osq⟩, hw''⟩ := hw'
            subst hw''
            clear y5
            have bQ := below_regrown wr dq osq
            obtain ⟨V, hV⟩ : ∃ V, V = Go.Sort.grow (Go.redrawn wr dq) osq := ⟨_, rfl⟩
            rw [← hV] at bQ
            rw [← hV]
            have BV := Lib.hid (stepR HBI.out bQ)
            have owv := OWI.out.kept (grown_belowR bQ) (apartR (by simp))
            have hl0 := own_lr (k := 7) (enc := encR) (fun _ => rfl) owv
            obtain ⟨ol, cl, hlv⟩ := hl0.form
            have hlt_ : (M.take t).length = t := by rw [List.length_take, ← HM.out]; omega
            rw [hlt_] at hlv
            obtain ⟨M2, hM2⟩ : ∃ M2, M2 = M.take t := ⟨_, rfl⟩
            rw [← hM2] at owv
            subst hlv
            have hlen : M2.length = t := by rw [hM2, hlt_]
            have OWV : Hid (OwnL w2.heap.size 50 7 encR V (.slice ol t cl) M2) := Lib.hid owv
            have HM2 := Lib.hid hM2
            have HLEN := Lib.hid hlen
            have XR := XCR.out V BV.out
            have s0 : V.cell? ⟨b, off + q * 7, none⟩ = some (.int .u64 (r.lsn : Int)) := XR 0 _ rfl
            have s1 : V.cell? ⟨b, off + q * 7 + 1, none⟩ = some (.int .u32 (r.ep : Int)) := XR 1 _ rfl
            have s2r : V.cell? ⟨b, off + q * 7 + 2, none⟩ = some (.int .i64 r.kind) := XR 2 _ rfl
            have s3r : V.cell? ⟨b, off + q * 7 + 3, none⟩ = some (.int .u64 (r.ver : Int)) := XR 3 _ rfl
            have s4r : V.cell? ⟨b, off + q * 7 + 4, none⟩ = some (.int .u64 (r.dl : Int)) := XR 4 _ rfl
            have s5 : V.cell? ⟨b, off + q * 7 + 5, none⟩ = some (.string r.id) := XR 5 _ rfl
            have s6 : V.cell? ⟨b, off + q * 7 + 6, none⟩ = some (.string r.va) := XR 6 _ rfl
            have S2 : Hid (∃ u2, (∀ W, (Instr.sliceAt 26 (.slice (some ⟨gM, 0, none⟩) t cM) (some (.int .i64 (t : Int))) none none).run Try.prog W = .ok u2 W) ∧ (∀ W, LR 7 encR W (.slice (some ⟨gM, 0, none⟩) t cM) M → LR 7 encR W u2 (M.drop t)) ∧ SlV u2 ∧ ∃ x y z, u2 = .slice x y z) := Lib.hid (by
              by_cases hc : t < cM
              · exact ⟨_, fun W => sl_fromF W gM 0 t cM t (Nat.le_refl t) hc, fun W h => lr_dropF h (by have := HMC.out; omega), Or.inr ⟨_, _, _, rfl⟩, _, _, _, rfl⟩
              · have e1 : t = cM := by have := HMC.out; omega
                have e2 : t = cM := by have := HMC.out; omega
                rw [e1]; (try rw [e2])
                refine ⟨_, fun W => sl_endF W gM 0 cM, fun W _ => ?_, Or.inr ⟨_, _, _, rfl⟩, _, _, _, rfl⟩
                rw [List.drop_of_length_le (by rw [← HM.out]; omega)]
                exact LR.nil _ _ _ _ _)
            obtain ⟨u2, s2, s3, s4, x2_, y2_, z2_, hu2⟩ := S2.out
            subst hu2
            have S3 := Lib.hid s3
            have S4 := Lib.hid s4
            clear bQ hV owv hl0 hlt_ hM2 hlen XR OWI XCR S2 s3 s4
            obtain ⟨ii, zz, i1, i2, i3, i4, i5⟩ := refrec_info
            have I1 := Lib.hid i1
            have I2 := Lib.hid i2
            have I3 := Lib.hid i3
            have I4 := Lib.hid i4
            have I5 := Lib.hid i5
            have OWN0 := Lib.hid (OWV.out)
            have BEL0 := Lib.hid (BV.out)
            have HNW := Lib.hid (heap_alloc_new V (.cells (#[.int .u64 (r.lsn : Int), .int .u32 (r.ep : Int), .int .i64 r.kind, .int .u64 (r.ver : Int), .int .u64 (r.dl : Int), .string r.id, .string r.va]) 50))
            clear i1 i2 i3 i4 i5
            go_wp2_with (at_builtin; refine wpList_append_lies _ rfl _ _ 26 rfl w2.heap.size 50 ii zz 7 72 Try.underlying26 I1.out I2.out I3.out I4.out I5.out (by decide) (.slice ol t cl) M2.length (M2.flatMap encR) rfl ?b10 ⟨V.heap.size, 0, none⟩ 1 1 (#[.int .u64 (r.lsn : Int), .int .u32 (r.ep : Int), .int .i64 r.kind, .int .u64 (r.ver : Int), .int .u64 (r.dl : Int), .string r.id, .string r.va] : Array Value).toList rfl rfl ?b11 ?b12 ?b13 ?b14 ?b15 ?b16 _ rfl ?_)
            case b10 => exact World.ownsRow.alloc OWN0.out _
            (try case b11 => exact World.news_of_block HNW.out)
            case b12 => simp [Value.oneCell']
            case b13 => decide
            case b14 => simp only [maxLen]; have := And.intro HLEN.out HM1000.out; omega
            case b15 => have := And.intro HLEN.out HM1000.out; omega
            case b16 => have := BEL0.out.size; first | omega | (rw [alloc_sizeR]; omega)
            intro g cap5 w5 hown5 hg hw hlt5
            have hbw : Below w2.heap.size w2 w5 := (BEL0.out.trans ((Below.refl _ _).alloc BEL0.out.size _)).trans (below_grownR hg (fun k hk => (own_geR OWN0.out k hk).1) (by rw [alloc_sizeR]; have := BEL0.out.size; omega))
            have HBW := Lib.hid hbw
            have HOWN5 := Lib.hid hown5
            clear hbw hown5 hg hw hlt5
            clear s0 s1 s2r s3r s4r s5 s6
            obtain ⟨L5, hL5⟩ : ∃ x, x = M2 ++ [r] := ⟨_, rfl⟩
            have own6 : OwnL w2.heap.size 50 7 encR w5 (.slice (some ⟨g, 0, none⟩) (M2.length + 1) cap5) L5 := by
              rw [hL5]
              show World.ownsRow _ _ _ _ _ (M2 ++ [_]).length ((M2 ++ [_]).flatMap encR)
              rw [flat_snoc, List.length_append]
              exact HOWN5.out
            have hl5 : L5.length ≤ 1001 := by rw [hL5, List.length_append, HLEN.out]; have := HM1000.out; show t + 1 ≤ _; omega
            obtain ⟨v7, w7, r7, o7, b7⟩ := own_appF w5 w2.heap.size _ _ L5 (M.drop t) own6 (S3.out w5 (LM.out.below HBW.out (Nat.le_refl _))) S4.out (by rw [List.length_drop, ← HM.out]; have := HM1000.out; omega) HBW.out.size
            have eP : L5 ++ M.drop t = outL l (q + 1) := by
              rw [hL5, HM2.out, HNX.out, ← put2_ins r M t (by rw [← HM.out]; exact htm) HLTS.out STOP.out HNE.out]
              rfl
            rw [eP] at o7
            obtain ⟨g7, c7, hv7, hc7⟩ := own_someF o7 (by rw [← eP, hL5]; simp)
            subst hv7
            have R7 := Lib.hid r7
            have O7 := Lib.hid (own_weakF o7 (HBX.out.size))
            have B7 := Lib.hid (stepR HBX.out (HBW.out.trans b7))
            have HC7 := Lib.hid hc7
            have eN : Hid ((outL l (q + 1)).length = (outL l (q + 1)).length) := Lib.hid rfl
            clear own6 hl5 r7 o7 b7 eP hL5 hc7
            go_wp2_with (at_builtin; refine wpList_append_runR rfl _ _ 26 rfl _ _ _ w7 rfl rfl R7.out ?_)
            go_roundw
            case rel => exact ⟨q + 1, _, _, _, by omega, by first | rfl | (rw [WJ.out]) | go_num, rfl, rfl, HC7.out, O7.out, B7.out⟩
            case measure => (try rw [WJ.out]); simp only [intOf, Int.toNat_natCast]; omega
      · rw [decide_eq_false hp] at rv
        rw [if_neg hp] at hst
        have RV := Lib.hid rv
        have HNX := Lib.hid hst
        clear rv hp hst hc hmc hM1 hM
        go_wp2_with fail
        refine RV.out.mono ?_; rintro e w2 ⟨rfl, b2⟩
        have HBX := Lib.hid (stepR HB.out b2)
        have OW2 : Hid (OwnL w.heap.size 50 7 encR w2 (.slice (some ⟨gM, 0, none⟩) m cM) M) := Lib.hid (OWN.out.kept (grown_belowR b2) (apartR (by simp)))
        clear b2 hm
        go_wp2_with fail
        go_roundw
        case rel => exact ⟨q + 1, _, gM, cM, by omega, by first | rfl | (rw [WJ.out]) | go_num, rfl, by rw [HNX.out, HM.out], by rw [HNX.out, ← HM.out]; exact HMC.out, by rw [HNX.out]; exact OW2.out, HBX.out⟩
        case measure => (try rw [WJ.out]); simp only [intOf, Int.toNat_natCast]; omega
    · obtain rfl : q = n := by omega
      have ht : outL l q = newL l := by rw [HN.out]; exact outL_new l
      rw [ht] at OWN
      clear hlt hmc
      rw [ht]
      clear ht
      go_wp2_with fail
      go_ret
      exact ⟨⟨_, rfl, OWN.out⟩, HB.out⟩
set_option maxRecDepth 100000 in
set_option maxHeartbeats 4000000 in
theorem rSessions_val (w : World) (v : Value) (l : List Rec) (now : Nat) (h : LR 7 encR w v l) (hl : l.length ≤ 1000) :
    Calls Try.prog 17 #[v, .int .u64 (now : Int)] w fun e w' => (∃ u, e = .returned u ∧ LR 3 encS w' u (sesL now (newL l))) ∧ Below w.heap.size w w' := by
  have h0 := own_new w 61 3 encS w.heap.size (Nat.le_refl _)
  have hb0 := (Below.refl w.heap.size w).alloc (Nat.le_refl _) (.cells #[] 61)
  have nv := rNewest_val (w.alloc (.cells #[] 61)) v l (h.below hb0 (Nat.le_refl _)) hl
  have hN := newL_len l
  obtain ⟨N, hNN⟩ : ∃ N, N = newL l := ⟨_, rfl⟩
  rw [← hNN] at nv hN ⊢
  have NV := Lib.hid nv
  have H0 := Lib.hid h0
  have HB0 := Lib.hid hb0
  have hN6 : N.length ≤ 1000000 := by omega
  obtain ⟨n, hn⟩ : ∃ n, n = N.length := ⟨_, rfl⟩
  rw [← hn] at hN6
  have HN := Lib.hid hn
  obtain ⟨ov, cv, rfl, _⟩ := h
  clear nv hn hN hNN hl h0 hb0
  go_enter Try.func17, Try.ntmps17
  go_wp2_with fail
  refine NV.out.mono ?_; rintro e w1 ⟨⟨u, rfl, hu⟩, b1⟩
  have hge := own_geR hu
  obtain ⟨oa, cap, rfl, _, hx⟩ := own_lr (k := 7) (enc := encR) (fun _ => rfl) hu
  rw [← HN.out]
  have AT := Lib.hid hx
  have GE := Lib.hid hge
  have B1 := Lib.hid (stepR HB0.out b1)
  have OW1 := Lib.hid (World.ownsRow.kept H0.out (grown_belowR b1) (apartR (by simp)))
  clear hx b1 NV H0 hge hu
  go_wp2_with fail
  go_loopw [5, 7] (fun o i wr => ∃ (q : Nat) (lv : Value), q ≤ n ∧ i = .int .i64 q ∧ lv = o ∧ OwnL w.heap.size 61 3 encS wr lv (sesL now (N.take q)) ∧ Below w.heap.size w wr ∧ (∀ g, oa.map (·.block) = some g → wr.heap[g]? = w1.heap[g]? ∧ ∀ k, some k = lv.ownBlock → k ≠ g)) (fun _ i _ => n - (intOf i).toNat)
  case atStart => exact ⟨0, _, by omega, rfl, rfl, OW1.out, B1.out, fun g hg => ⟨rfl, fun k hk e => by
    have h1 := (GE.out g (by cases oa with | none => cases hg | some a => exact hg.symm)).1
    rw [alloc_sizeR] at h1
    have h2 : k = w.heap.size := by simpa [Value.ownBlock] using hk
    omega⟩⟩
  case round =>
    obtain ⟨q, lv, hq, rfl, rfl, hown, hbl, hb2⟩ := hrel
    have OWN := Lib.hid hown
    have HB := Lib.hid hbl
    have HB2 := Lib.hid hb2
    clear hown hbl hb2
    by_cases hlt : q < n
    · have hkn : (q : Int) < (n : Int) := by omega
      have hql : q < N.length := by have := HN.out; omega
      obtain ⟨b, off, hoa, hc⟩ := AT.out q hql
      have htk : sesL now (N.take (q + 1)) = sesL now (N.take q) ++ (if N[q].kind = 1 ∧ now < N[q].dl then [⟨N[q].id, N[q].va, N[q].dl⟩] else []) := by
        rw [List.take_succ_eq_append_getElem hql, sesL_snoc]
      obtain ⟨r, hr⟩ : ∃ r, r = N[q] := ⟨_, rfl⟩
      rw [← hr] at hc htk
      have hln : (sesL now (N.take q)).length ≤ q := by
        have := sesL_len now (N.take q)
        rw [List.length_take] at this
        omega
      obtain ⟨L, hL⟩ : ∃ L, L = sesL now (N.take q) := ⟨_, rfl⟩
      rw [← hL] at OWN htk hln
      obtain ⟨hgn, hkn_⟩ := HB2.out b (by rw [hoa]; rfl)
      have s0 : wr.cell? ⟨b, off + q * 7, none⟩ = some (.int .u64 (r.lsn : Int)) := (World.cell?_of_block (a := ⟨b, off + q * 7, none⟩) hgn).trans (hc 0 _ rfl)
      have s1 : wr.cell? ⟨b, off + q * 7 + 1, none⟩ = some (.int .u32 (r.ep : Int)) := (World.cell?_of_block (a := ⟨b, off + q * 7 + 1, none⟩) hgn).trans (hc 1 _ rfl)
      have s2 : wr.cell? ⟨b, off + q * 7 + 2, none⟩ = some (.int .i64 r.kind) := (World.cell?_of_block (a := ⟨b, off + q * 7 + 2, none⟩) hgn).trans (hc 2 _ rfl)
      have s3 : wr.cell? ⟨b, off + q * 7 + 3, none⟩ = some (.int .u64 (r.ver : Int)) := (World.cell?_of_block (a := ⟨b, off + q * 7 + 3, none⟩) hgn).trans (hc 3 _ rfl)
      have s4 : wr.cell? ⟨b, off + q * 7 + 4, none⟩ = some (.int .u64 (r.dl : Int)) := (World.cell?_of_block (a := ⟨b, off + q * 7 + 4, none⟩) hgn).trans (hc 4 _ rfl)
      have s5 : wr.cell? ⟨b, off + q * 7 + 5, none⟩ = some (.string r.id) := (World.cell?_of_block (a := ⟨b, off + q * 7 + 5, none⟩) hgn).trans (hc 5 _ rfl)
      have s6 : wr.cell? ⟨b, off + q * 7 + 6, none⟩ = some (.string r.va) := (World.cell?_of_block (a := ⟨b, off + q * 7 + 6, none⟩) hgn).trans (hc 6 _ rfl)
      have HG1 := Lib.hid hgn
      have HK1 := Lib.hid hkn_
      have HLN := Lib.hid hln
      have WJ := Lib.hid (wrR q (by omega))
      subst hoa
      clear hc hr hln hL hgn hkn_
      by_cases hk1 : r.kind = 1
      · have g1 : (r.kind == 1) = true := by rw [hk1]; rfl
        have g2 : (r.kind = 1) = True := eq_true hk1
        by_cases hd : now < r.dl
        · have v1 : (now < r.dl) = True := eq_true hd
          have v2 : (r.dl ≤ now) = False := eq_false (by omega)
          rw [if_pos ⟨hk1, hd⟩] at htk
          have HTK := Lib.hid htk
          clear hd htk hk1
          obtain ⟨ii, zz, i1, i2, i3, i4, i5⟩ := ses2_info
          have I1 := Lib.hid i1
          have I2 := Lib.hid i2
          have I3 := Lib.hid i3
          have I4 := Lib.hid i4
          have I5 := Lib.hid i5
          have t0 : ∀ V, Below wr.heap.size wr V → V.cell? ⟨b, off + q * 7 + 5, none⟩ = some (.string r.id) := fun V hV => (hV.cell (p := ⟨b, off + q * 7 + 5, none⟩) (lt_of_cellR s5)).trans s5
          have t1 : ∀ V, Below wr.heap.size wr V → V.cell? ⟨b, off + q * 7 + 6, none⟩ = some (.string r.va) := fun V hV => (hV.cell (p := ⟨b, off + q * 7 + 6, none⟩) (lt_of_cellR s6)).trans s6
          have t2 : ∀ V, Below wr.heap.size wr V → V.cell? ⟨b, off + q * 7 + 4, none⟩ = some (.int .u64 (r.dl : Int)) := fun V hV => (hV.cell (p := ⟨b, off + q * 7 + 4, none⟩) (lt_of_cellR s4)).trans s4
          have HLT0 := Lib.hid (show b < wr.heap.size from lt_of_cellR s0)
          clear i1 i2 i3 i4 i5
          go_wp2_with fail
          clear s0 s1 s2 s3 s4 s5 s6 v1 v2 g1 g2
          refine wp_region_tail [0, 1, 2, 3, 4, 5, 6, 7, 8, 9, 10, 11, 12, 13, 14, 15, 16, 17] 18 2 (by kernel_rfl) (by kernel_rfl) (by kernel_rfl) ?_
          refine wpM_det rfl ?_
          apply Exists.intro
          refine ⟨?_, ?_⟩
          · intro vs w' hC hk
            (try simp [Know.add, depOn, Region.binds] at hk)
            go_simp
            exact ⟨Below.refl _ _, rfl⟩
          refine wpM_det rfl ?_
          apply Exists.intro
          refine ⟨?_, ?_⟩
          · intro vs w' hC hk
            (try simp [Know.add, depOn, Region.binds] at hk)
            go_simp
            exact ⟨Below.refl _ _, rfl⟩
          refine wpM_det rfl ?_
          apply Exists.intro
          refine ⟨?_, ?_⟩
          · intro vs w' hC hk
            (try simp [Know.add, depOn, Region.binds] at hk)
            go_simp
            exact ⟨Below.refl _ _, rfl⟩
          refine wpM_det rfl ?_
          apply Exists.intro
          refine ⟨?_, ?_⟩
          · intro vs w' hC hk
            (try simp [Know.add, depOn, Region.binds] at hk)
            go_simp
            exact ⟨Below.refl _ _, rfl⟩
          refine wpM_det rfl ?_
          apply Exists.intro
          refine ⟨?_, ?_⟩
          · intro vs w' hC hk
            (try simp [Know.add, depOn, Region.binds] at hk)
            go_simp
            exact ⟨Below.refl _ _, rfl⟩
          refine wpM_det rfl ?_
          apply Exists.intro
          refine ⟨?_, ?_⟩
          · intro vs w' hC hk
            (try simp [Know.add, depOn, Region.binds] at hk)
            go_simp
            exact ⟨Below.refl _ _, rfl⟩
          refine wpM_det rfl ?_
          apply Exists.intro
          refine ⟨?_, ?_⟩
          · intro vs w' hC hk
            (try simp [Know.add, depOn, Region.binds] at hk)
            go_simp
            exact ⟨Below.refl _ _, rfl⟩
          refine wpM_det rfl ?_
          apply Exists.intro
          refine ⟨?_, ?_⟩
          · intro vs w' hC hk
            (try simp [Know.add, depOn, Region.binds] at hk)
            go_simp
            exact ⟨Below.refl _ _, rfl⟩
          refine wpM_det rfl ?_
          apply Exists.intro
          refine ⟨?_, ?_⟩
          · intro vs w' hC hk
            (try simp [Know.add, depOn, Region.binds] at hk)
            go_simp
            exact ⟨Below.refl _ _, rfl⟩
          refine wpM_det rfl ?_
          apply Exists.intro
          refine ⟨?_, ?_⟩
          · intro vs w' hC hk
            (try simp [Know.add, depOn, Region.binds] at hk)
            go_simp
            exact ⟨Below.refl _ _, rfl⟩
          refine wpM_det rfl ?_
          apply Exists.intro
          refine ⟨?_, ?_⟩
          · intro vs w' hC hk
            (try simp [Know.add, depOn, Region.binds] at hk)
            go_simp
            exact ⟨Below.refl _ _, rfl⟩
          refine wpM_det rfl ?_
          apply Exists.intro
          refine ⟨?_, ?_⟩
          · intro vs w' hC hk
            (try simp [Know.add, depOn, Region.binds] at hk)
            go_simp
            exact ⟨Below.refl _ _, rfl⟩
          refine wpM_det rfl ?_
          apply Exists.intro
          refine ⟨?_, ?_⟩
          · intro vs w' hC hk
            (try simp [Know.add, depOn, Region.binds] at hk)
            go_simp
            exact ⟨Below.refl _ _, rfl⟩
          refine wpM_det rfl ?_
          apply Exists.intro
          refine ⟨?_, ?_⟩
          · intro vs w' hC hk
            (try simp [Know.add, depOn, Region.binds] at hk)
            go_simp
            exact ⟨Below.refl _ _, rfl⟩
          refine wpM_det rfl ?_
          apply Exists.intro
          refine ⟨?_, ?_⟩
          · intro vs w' hC hk
            (try simp [Know.add, depOn, Region.binds] at hk)
            go_simp
            exact ⟨Below.refl _ _, rfl⟩
          refine wpM_det rfl ?_
          apply Exists.intro
          refine ⟨?_, ?_⟩
          · intro vs w' hC hk
            (try simp [Know.add, depOn, Region.binds] at hk)
            go_simp
            exact ⟨Below.refl _ _, rfl⟩
          refine wpM_det rfl ?_
          apply Exists.intro
          refine ⟨?_, ?_⟩
          · intro vs w' hC hk
            (try simp [Know.add, depOn, Region.binds] at hk)
            go_simp
            exact ⟨Below.refl _ _, rfl⟩
          refine wpM_step rfl (NewSl 61 [.string r.id, .string r.va, .int .u64 (r.dl : Int)]) (stab_newsl _ _) ?_ ?_
          · intro vs w' hC hk
            (try simp [Know.add, depOn, Region.binds] at hk)
            go_simp
            exact ⟨(Below.refl _ _).alloc (Nat.le_refl _) _, _, rfl, heap_alloc_new _ _⟩
          refine wpM_nil ?_
          intro vs w' hC hk
          have h17 : NewSl 61 [.string r.id, .string r.va, .int .u64 (r.dl : Int)] (vs 17) w' := hk.2 (by kernel_rfl)
          have h0' : vs 0 = lv := hk.1.1.1.1.1.1.1.1.1.1.1.1.1.1.1.1.1.2 (by kernel_rfl)
          clear hk t0 t1 t2
          obtain ⟨nb, h17, hnb⟩ := h17
          have HNB := Lib.hid hnb
          have hC' := hC
          clear hnb
          go_simp
          refine wpAny_one 18 ?_ rfl ?_
          · kernel_rfl
          intro K hK
          rw [if_pos (by rfl)]
          refine wp_append_lies w' _ _ 31 rfl w.heap.size 61 ii zz 3 40 Try.underlying31 I1.out I2.out I3.out I4.out I5.out (by decide) lv L.length (L.flatMap encS) ?g0 ?h0 ⟨nb, 0, none⟩ 1 1 [.string r.id, .string r.va, .int .u64 (r.dl : Int)] ?g1 rfl ?h1 ?h2 ?h3 ?h4 ?h5 ?h6 _ rfl ?_
          case g0 => go_simp
          case g1 => go_simp
          case h0 => exact OWN.out.kept (grown_belowR hC) (apartR (by simp))
          case h1 => exact World.news_of_block HNB.out
          case h2 => simp [Value.oneCell']
          case h3 => decide
          case h4 => simp only [maxLen]; have := HLN.out; omega
          case h5 => have := HLN.out; omega
          case h6 => have := hC.size; have := HB.out.size; omega
          intro g cap5 w5 hown5 hg hw hlt5
          refine hK _ _ ?_
          clear hK K
          have hbw : Below w.heap.size w w5 := (stepR HB.out hC').trans (below_grownR hg (fun k hk => (own_geR OWN.out k hk).1) (by have := hC'.size; have := HB.out.size; omega))
          have HGN : Hid (w5.heap[b]? = w1.heap[b]?) := Lib.hid ((hg.block b (Nat.lt_of_lt_of_le HLT0.out hC'.size) (fun e => HK1.out b e rfl)).trans ((hC'.block b HLT0.out).trans HG1.out))
          have HKN : Hid (∀ k, some k = (Value.slice (some ⟨g, 0, none⟩) (L.length + 1) cap5).ownBlock → k ≠ b) := Lib.hid (fun k hk => by
            have e : k = g := by simpa [Value.ownBlock] using hk
            subst e
            rcases hw with h | h
            · exact HK1.out _ h.symm
            · have := hC'.size; have := HLT0.out; omega)
          have HBW := Lib.hid hbw
          have HOWN5 := Lib.hid hown5
          clear hbw hown5 hg hw hlt5
          go_simp
          refine wpAny_one 19 ?_ rfl ?_
          · kernel_rfl
          intro K hK
          rw [if_pos (by rfl)]
          go_simp
          refine hK _ _ ?_
          clear hK K
          refine wpAny_done (by kernel_rfl) ?_ _
          go_wp2_with fail
          go_roundw
          case rel => exact ⟨q + 1, _, by omega, by first | rfl | (rw [WJ.out]), rfl, by rw [HTK.out]; show World.ownsRow _ _ _ _ _ (L ++ [_]).length ((L ++ [_]).flatMap encS); rw [flat_snoc, List.length_append]; exact HOWN5.out, HBW.out, (fun g' hg' => (show b = g' from Option.some.inj hg') ▸ ⟨HGN.out, HKN.out⟩)⟩
          case measure => (try rw [WJ.out]); simp only [intOf, Int.toNat_natCast]; omega
        · have v1 : (now < r.dl) = False := eq_false hd
          have v2 : (r.dl ≤ now) = True := eq_true (by omega)
          rw [if_neg (fun h => hd h.2), List.append_nil] at htk
          have HTK := Lib.hid htk
          clear hd htk hk1
          go_wp2_with fail
          go_roundw
          case rel => exact ⟨q + 1, _, by omega, by first | rfl | (rw [WJ.out]), rfl, by rw [HTK.out]; exact OWN.out, HB.out, (fun g' hg' => (show b = g' from Option.some.inj hg') ▸ ⟨HG1.out, HK1.out⟩)⟩
          case measure => (try rw [WJ.out]); simp only [intOf, Int.toNat_natCast]; omega
      · have g1 : (r.kind == 1) = false := beq_eq_false_iff_ne.2 hk1
        have g2 : (r.kind = 1) = False := eq_false hk1
        rw [if_neg (fun h => hk1 h.1), List.append_nil] at htk
        have HTK := Lib.hid htk
        clear htk hk1
        go_wp2_with fail
        go_roundw
        case rel => exact ⟨q + 1, _, by omega, by first | rfl | (rw [WJ.out]), rfl, by rw [HTK.out]; exact OWN.out, HB.out, (fun g' hg' => (show b = g' from Option.some.inj hg') ▸ ⟨HG1.out, HK1.out⟩)⟩
        case measure => (try rw [WJ.out]); simp only [intOf, Int.toNat_natCast]; omega
    · obtain rfl : q = n := by omega
      have ht : N.take q = N := List.take_of_length_le (by have := HN.out; omega)
      have hl2 := own_lr (k := 3) (enc := encS) (fun _ => rfl) OWN.out
      rw [ht] at hl2
      have HL := Lib.hid hl2
      clear ht hl2 hlt
      go_wp2_with fail
      go_ret
      exact ⟨⟨_, rfl, HL.out⟩, HB.out⟩
end Go.Proofs.Ytlnhdbbhlcpkbaa.G
