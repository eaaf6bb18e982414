/- ReplayOrder: whatever is handed in, the law answers true. No condition. -/
import Derived.Test.YtlnhdbbhlcpkbaaRo
import Derived.Test.YtlnhdbbhlcpkbaaRq
import Derived.Test.YtlnhdbbhlcpkbaaGFast
import Derived.BigQuiet
namespace Go.Proofs.Ytlnhdbbhlcpkbaa.L
open Go.RowKit Go.Maps Go.Proofs.Ytlnhdbbhlcpkbaa.G Go.Proofs.Ytlnhdbbhlcpkbaa.WordPlain Go.Proofs.Ytlnhdbbhlcpkbaa.Loose
set_option linter.unusedVariables false
set_option linter.unusedSimpArgs false

theorem rev_step (L : List Rec) (m : Nat) (h : m < L.length) : (L.drop m).reverse = (L.drop (m + 1)).reverse ++ [L[m]] := by rw [List.drop_eq_getElem_cons h, List.reverse_cons]
set_option maxRecDepth 100000 in
set_option maxHeartbeats 8000000 in
theorem order_main (l : List Rec) (v : Value) (now : Nat) (w : World) (hv : LR 7 encR w v l) (hkl : ∀ r ∈ l, r.Kind) (hll : l.length ≤ 140737488351232) :
    Calls Try.prog 4 #[v, .int .u64 (now : Int)] w fun e w' => e = .returned (.bool true) ∧ Below w.heap.size w w' := by
  have c1 := Cut_val w v l 40 hv hll (by decide)
  have l1 := cutsR_len l 40
  have k1 := cutsR_kind l 40 hkl
  obtain ⟨L, hL⟩ : ∃ x, x = cutsR l 40 := ⟨_, rfl⟩
  rw [← hL] at c1 l1 k1
  have C1 := Lib.hid c1
  have L1 := Lib.hid l1
  have K1 := Lib.hid k1
  obtain ⟨oav, capv, hvv, _⟩ := hv
  subst hvv
  obtain ⟨n, hn⟩ : ∃ n, n = L.length := ⟨_, rfl⟩
  have N40 : n ≤ 40 := by omega
  have HN := Lib.hid hn
  clear c1 l1 k1 hL hkl hll hn
  go_enter Try.func4, Try.ntmps4
  go_wp2_with fail
  refine C1.out.mono ?_; rintro e w1 ⟨⟨u1, rfl, o1⟩, b1⟩
  have hlr := own_lr (k := 7) (enc := encR) (fun _ => rfl) o1
  obtain ⟨oa, cap, rfl, _, hx⟩ := hlr
  rw [← HN.out]
  have LR1 := Lib.hid (own_lr (k := 7) (enc := encR) (fun _ => rfl) o1)
  have AT := Lib.hid hx
  have B1 := Lib.hid b1
  have own0 := own_new w1 42 7 encR w1.heap.size (Nat.le_refl _)
  have bb0 : Below w1.heap.size w1 (w1.alloc (.cells #[] 42)) := (Below.refl _ _).alloc (Nat.le_refl _) _
  have OWN0 := Lib.hid own0
  have BB0 := Lib.hid bb0
  have wn : wrap64 ((n : Int) - 1) = (n : Int) - 1 := IntWalk.wrap64_in _ (by omega)
  clear o1 b1 hx own0 bb0
  go_wp2_with fail
  go_loopw [5, 6] (fun o i wr => ∃ (m : Nat) (lv : Value), m ≤ n ∧ i = .int .i64 ((m : Int) - 1) ∧ lv = o ∧ OwnL w1.heap.size 42 7 encR wr lv (L.drop m).reverse ∧ (∀ a b (ha : a < L.length) (hb : b < L.length), a < b → m ≤ b → ¬ (L[a].id = L[b].id ∧ L[a].ver = L[b].ver)) ∧ Below w1.heap.size w1 wr) (fun _ i _ => (intOf i + 1).toNat)
  case atStart => exact ⟨n, _, Nat.le_refl _, rfl, rfl, by rw [HN.out, List.drop_length]; exact OWN0.out, (fun a b ha hb _ h => absurd hb (by have := HN.out; omega)), BB0.out⟩
  case round =>
    obtain ⟨m', lv, hm, rfl, rfl, hown, hP, hbl⟩ := hrel
    have OWN := Lib.hid hown
    have HP := Lib.hid hP
    have HB := Lib.hid hbl
    clear hown hP hbl wn
    by_cases hm0 : m' = 0
    · subst hm0
      have hall : (L.drop 0).reverse = L.reverse := by rw [List.drop_zero]
      have hturn : newL L.reverse = newL L := newL_turned L (List.pairwise_iff_getElem.2 fun i j hi hj hij => HP.out i j hi hj hij (Nat.zero_le _))
      rw [hall] at OWN
      obtain ⟨T, hT⟩ : ∃ x, x = L.reverse := ⟨_, rfl⟩
      have hTl : T.length ≤ 1000000 := by rw [hT, List.length_reverse, ← HN.out]; omega
      have hTk : ∀ r ∈ T, r.Kind := fun r hr => K1.out r (by rw [hT] at hr; exact List.mem_reverse.1 hr)
      rw [← hT] at OWN hturn
      have LRT := Lib.hid (own_lr (k := 7) (enc := encR) (fun _ => rfl) OWN.out)
      obtain ⟨at_, ct, hft⟩ := LRT.out.form
      subst hft
      have hLl : L.length ≤ 1000000 := by rw [← HN.out]; omega
      have nlen : (newL L).length ≤ 1000000 := Nat.le_trans (newL_len _) hLl
      have slen : (sesL now (newL L)).length ≤ 1000000 := Nat.le_trans (sesL_len _ _) nlen
      have na := Newest_val L (.slice oa n cap) wr hLl K1.out (by rw [HN.out]; have := LR1.out.below HB.out (Nat.le_refl _); exact this)
      have NA := Lib.hid na
      have NLEN := Lib.hid nlen
      have SLEN := Lib.hid slen
      have HLL := Lib.hid hLl
      have HTL := Lib.hid hTl
      have HTK := Lib.hid hTk
      have HTU := Lib.hid hturn
      have g0 : ¬ (0 : Int) - 1 ≥ 0 := by decide
      clear na nlen slen hLl hTl hTk hturn hall hT
      go_wp2_with fail
      refine NA.out.mono ?_; rintro e w2 ⟨⟨u2, rfl, h2⟩, b2⟩
      have R2 := Lib.hid (Refs_val w2 u2 _ h2 NLEN.out)
      have B2 := Lib.hid b2
      clear h2 b2 NA
      go_wp2_with fail
      refine R2.out.mono ?_; rintro e w3 ⟨⟨u3, rfl, h3⟩, b3⟩
      have B3 := Lib.hid (stepR B2.out b3)
      have H3 := Lib.hid h3
      have nb := Newest_val T _ w3 HTL.out HTK.out (LRT.out.below B3.out (Nat.le_refl _))
      rw [HTU.out] at nb
      have NB := Lib.hid nb
      clear h3 b3 nb R2
      go_wp2_with fail
      refine NB.out.mono ?_; rintro e w4 ⟨⟨u4, rfl, h4⟩, b4⟩
      have R4 := Lib.hid (Refs_val w4 u4 _ h4 NLEN.out)
      have H4 := Lib.hid (H3.out.below b4 (Nat.le_refl _))
      have B4 := Lib.hid (stepR B3.out b4)
      clear h4 b4 NB
      go_wp2_with fail
      refine R4.out.mono ?_; rintro e w5 ⟨⟨u5, rfl, h5⟩, b5⟩
      have rc := Recs_val w5 u3 u5 _ _ (H4.out.below b5 (Nat.le_refl _)) h5 NLEN.out
      rw [decide_eq_true rfl] at rc
      have RC := Lib.hid rc
      have B5 := Lib.hid (stepR B4.out b5)
      clear h5 b5 rc R4
      go_wp2_with fail
      refine RC.out.mono ?_; rintro e w6 ⟨rfl, b6⟩
      have B6 := Lib.hid (stepR B5.out b6)
      have sv := Sessions_val w6 (.slice oa n cap) L now (by rw [HN.out]; exact LR1.out.below (stepR HB.out B6.out) (Nat.le_refl _)) HLL.out K1.out
      have SV := Lib.hid sv
      clear b6 RC sv
      go_wp2_with fail
      refine SV.out.mono ?_; rintro e w7 ⟨⟨u7, rfl, h7⟩, b7⟩
      have V7 := Lib.hid (Lives_val w7 u7 _ h7 SLEN.out)
      have B7 := Lib.hid (stepR B6.out b7)
      clear h7 b7 SV
      go_wp2_with fail
      refine V7.out.mono ?_; rintro e w8 ⟨⟨u8, rfl, h8⟩, b8⟩
      have B8 := Lib.hid (stepR B7.out b8)
      have H8 := Lib.hid h8
      have st := Sessions_val w8 _ T now (LRT.out.below B8.out (Nat.le_refl _)) HTL.out HTK.out
      rw [HTU.out] at st
      have ST := Lib.hid st
      clear h8 b8 V7 st
      go_wp2_with fail
      refine ST.out.mono ?_; rintro e w9 ⟨⟨u9, rfl, h9⟩, b9⟩
      have V9 := Lib.hid (Lives_val w9 u9 _ h9 SLEN.out)
      have H9 := Lib.hid (H8.out.below b9 (Nat.le_refl _))
      have B9 := Lib.hid (stepR B8.out b9)
      clear h9 b9 ST
      go_wp2_with fail
      refine V9.out.mono ?_; rintro e wa ⟨⟨ua, rfl, ha⟩, ba⟩
      have sm := Same_val wa u8 ua _ _ (H9.out.below ba (Nat.le_refl _)) ha SLEN.out
      rw [decide_eq_true rfl] at sm
      have SM := Lib.hid sm
      have BA := Lib.hid (stepR B9.out ba)
      clear ha ba sm V9
      go_wp2_with fail
      refine SM.out.mono ?_; rintro e wb ⟨rfl, bb⟩
      have BE := Lib.hid (stepR B1.out (stepR HB.out (stepR BA.out bb)))
      clear bb SM
      go_wp2_with fail
      refine (fixed_val wb).mono ?_; rintro e wc ⟨rfl, bc⟩
      go_wp2_with fail
      go_ret
      exact ⟨rfl, stepR BE.out bc⟩
    · obtain ⟨m, rfl⟩ : ∃ m, m' = m + 1 := ⟨m' - 1, by omega⟩
      have em : (((m + 1 : Nat) : Int) - 1) = (m : Int) := by omega
      rw [em]
      have hml : m < L.length := by have := HN.out; omega
      have g0 : (m : Int) ≥ 0 := by omega
      have hmn : (m : Int) < (n : Int) := by omega
      have hmn' : m < n := by omega
      obtain ⟨b, off, hoa, hc⟩ := AT.out m hml
      have rs := rev_step L m hml
      obtain ⟨r, hr⟩ : ∃ r, r = L[m] := ⟨_, rfl⟩
      have HR := Lib.hid hr
      rw [← hr] at hc rs
      have hc' := fun j u hu => (HB.out.cell (p := ⟨b, off + m * 7 + j, none⟩) (lt_of_cellR (hc j u hu))).trans (hc j u hu)
      have s0 : wr.cell? ⟨b, off + m * 7, none⟩ = some (.int .u64 (r.lsn : Int)) := hc' 0 _ rfl
      have s1 : wr.cell? ⟨b, off + m * 7 + 1, none⟩ = some (.int .u32 (r.ep : Int)) := hc' 1 _ rfl
      have s2 : wr.cell? ⟨b, off + m * 7 + 2, none⟩ = some (.int .i64 r.kind) := hc' 2 _ rfl
      have s3 : wr.cell? ⟨b, off + m * 7 + 3, none⟩ = some (.int .u64 (r.ver : Int)) := hc' 3 _ rfl
      have s4 : wr.cell? ⟨b, off + m * 7 + 4, none⟩ = some (.int .u64 (r.dl : Int)) := hc' 4 _ rfl
      have s5 : wr.cell? ⟨b, off + m * 7 + 5, none⟩ = some (.string r.id) := hc' 5 _ rfl
      have s6 : wr.cell? ⟨b, off + m * 7 + 6, none⟩ = some (.string r.va) := hc' 6 _ rfl
      have CM := Lib.hid hc'
      obtain ⟨R0, hR0⟩ : ∃ x, x = (L.drop (m + 1)).reverse := ⟨_, rfl⟩
      have hRl : R0.length ≤ 40 := by rw [hR0, List.length_reverse, List.length_drop]; have := HN.out; omega
      rw [← hR0] at OWN rs
      have HRS := Lib.hid rs
      have HRL := Lib.hid hRl
      subst hoa
      clear hc hc' rs hr hR0 hRl hm0 hm em
      obtain ⟨ii, zz, i1, i2, i3, i4, i5⟩ := rec_info
      have I1 := Lib.hid i1
      have I2 := Lib.hid i2
      have I3 := Lib.hid i3
      have I4 := Lib.hid i4
      have I5 := Lib.hid i5
      have OWN0 := Lib.hid (OWN.out)
      have BEL0 := Lib.hid (HB.out)
      have HNW := Lib.hid (heap_alloc_new wr (.cells (#[.int .u64 (r.lsn : Int), .int .u32 (r.ep : Int), .int .i64 r.kind, .int .u64 (r.ver : Int), .int .u64 (r.dl : Int), .string r.id, .string r.va]) 42))
      clear i1 i2 i3 i4 i5
      go_wp2_with (at_builtin; refine wpList_append_lies _ rfl _ _ 22 rfl w1.heap.size 42 ii zz 7 72 Try.underlying22 I1.out I2.out I3.out I4.out I5.out (by decide) lv R0.length (R0.flatMap encR) rfl ?a10 ⟨wr.heap.size, 0, none⟩ 1 1 (#[.int .u64 (r.lsn : Int), .int .u32 (r.ep : Int), .int .i64 r.kind, .int .u64 (r.ver : Int), .int .u64 (r.dl : Int), .string r.id, .string r.va] : Array Value).toList rfl rfl ?a11 ?a12 ?a13 ?a14 ?a15 ?a16 _ rfl ?_)
      case a10 => exact World.ownsRow.alloc OWN0.out _
      (try case a11 => exact World.news_of_block HNW.out)
      case a12 => simp [Value.oneCell']
      case a13 => decide
      case a14 => simp only [maxLen]; have := HRL.out; omega
      case a15 => have := HRL.out; omega
      case a16 => have := BEL0.out.size; first | omega | (rw [alloc_sizeR]; omega)
      intro g cap5 w5 hown5 hg hw hlt5
      have hbw : Below w1.heap.size w1 w5 := (BEL0.out.trans ((Below.refl _ _).alloc BEL0.out.size _)).trans (below_grownR hg (fun k hk => (own_geR OWN0.out k hk).1) (by rw [alloc_sizeR]; have := BEL0.out.size; omega))
      have HBW := Lib.hid hbw
      have HOWN5 := Lib.hid hown5
      clear hbw hown5 hg hw hlt5
      have HOWN6 := Lib.hid (show OwnL w1.heap.size 42 7 encR w5 (.slice (some ⟨g, 0, none⟩) (R0.length + 1) cap5) (L.drop m).reverse by rw [HRS.out]; show World.ownsRow _ _ _ _ _ (R0 ++ [_]).length ((R0 ++ [_]).flatMap encR); rw [flat_snoc, List.length_append]; exact HOWN5.out)
      clear s0 s1 s2 s3 s4 s5 s6
      go_wp2_with fail
      go_loopw [7] (fun kk wi => ∃ j : Nat, j ≤ m ∧ kk = .int .i64 j ∧ (∀ a (ha : a < L.length), a < j → ¬ (L[a].id = r.id ∧ L[a].ver = r.ver)) ∧ Below w5.heap.size w5 wi) (fun kk _ => m - (intOf kk).toNat)
      case atStart => exact ⟨0, by omega, rfl, (fun a _ h => absurd h (Nat.not_lt_zero _)), Below.refl _ _⟩
      case round =>
        obtain ⟨j, hj, rfl, hpa, hbi⟩ := hrel
        have HPA := Lib.hid hpa
        have HBI := Lib.hid hbi
        have HB5 := Lib.hid (stepR HBW.out hbi)
        clear hpa hbi
        by_cases hjm : j < m
        · have hkm : (j : Int) < (m : Int) := by omega
          have hjl : j < L.length := by omega
          have hjn : (j : Int) < (n : Int) := by omega
          have hjn' : j < n := by omega
          obtain ⟨b', off', e, hcj⟩ := AT.out j hjl
          injection e with e
          injection e with e1 e2
          subst e1 e2
          obtain ⟨x, hx⟩ : ∃ x, x = L[j] := ⟨_, rfl⟩
          rw [← hx] at hcj
          have HX := Lib.hid hx
          obtain ⟨b'', off'', e, hcm⟩ := AT.out m hml
          injection e with e
          injection e with e1 e2
          subst e1 e2
          rw [← HR.out] at hcm
          have cj := fun k u hu => (HB5.out.cell (p := ⟨b, off + j * 7 + k, none⟩) (lt_of_cellR (hcj k u hu))).trans (hcj k u hu)
          have cm := fun k u hu => (HB5.out.cell (p := ⟨b, off + m * 7 + k, none⟩) (lt_of_cellR (hcm k u hu))).trans (hcm k u hu)
          have k0 := cell_regrown (cj 3 (.int .u64 (x.ver : Int)) rfl)
          have k1 := cell_regrown (cj 5 (.string x.id) rfl)
          have k2 := cell_regrown (cm 3 (.int .u64 (r.ver : Int)) rfl)
          have k3 := cell_regrown (cm 5 (.string r.id) rfl)
          have WJ := Lib.hid (wrR j (by omega))
          have NEXT : ¬ (x.id = r.id ∧ x.ver = r.ver) → Hid (∀ a (ha : a < L.length), a < j + 1 → ¬ (L[a].id = r.id ∧ L[a].ver = r.ver)) := fun hne => Lib.hid (fun a ha hlt => by
            rcases (by omega : a < j ∨ a = j) with h | h
            · exact HPA.out a ha h
            · subst h; rw [← HX.out]; exact hne)
          clear cj cm hcj hcm hx
          by_cases hid : x.id = r.id
          · by_cases hver : x.ver = r.ver
            · clear NEXT
              have q0 : (r.id.toList == r.id.toList) = true := beq_self_eq_true _
              have q1 : ((r.ver : Int) == (r.ver : Int)) = true := beq_self_eq_true _
              rw [hid] at k1
              rw [hver] at k0
              clear hid hver
              go_wp2_with fail
              refine Loose.wp_region_quiet_fast (by kernel_rfl) (by kernel_rfl) ?_
              (try simp only [List.append_eq, List.cons_append, List.nil_append])
              repeat (go_big_quiet_step (fail))
              refine wpQuiet_nil ?_
              intro _ hw'
              obtain ⟨⟨dq, osq⟩, hw''⟩ := hw'
              subst hw''
              clear k0 k1 k2 k3 q0 q1
              have bQ := below_regrown wr dq osq
              have BE := Lib.hid (stepR B1.out (stepR HB5.out bQ))
              clear bQ
              go_wp2_with fail
              refine (fixed_val _).mono ?_; rintro e wc ⟨rfl, bc⟩
              go_wp2_with fail
              go_ret
              exact ⟨rfl, stepR BE.out bc⟩
            · have NX := NEXT (fun h => hver h.2)
              have q0 : (r.id.toList == r.id.toList) = true := beq_self_eq_true _
              have q1 : ((x.ver : Int) == (r.ver : Int)) = false := beq_eq_false_iff_ne.2 (by omega)
              have q2 : ((x.ver : Int) = (r.ver : Int)) = False := eq_false (by omega)
              have q3 : (x.ver = r.ver) = False := eq_false hver
              rw [hid] at k1
              clear hid hver NEXT
              go_wp2_with fail
              refine Loose.wp_region_quiet_fast (by kernel_rfl) (by kernel_rfl) ?_
              (try simp only [List.append_eq, List.cons_append, List.nil_append])
              repeat (go_big_quiet_step (fail))
              refine wpQuiet_nil ?_
              intro _ hw'
              obtain ⟨⟨dq, osq⟩, hw''⟩ := hw'
              subst hw''
              clear k0 k1 k2 k3 q0 q1 q2 q3
              have bQ := below_regrown wr dq osq
              have BE := Lib.hid (stepR HBI.out bQ)
              clear bQ
              go_wp2_with fail
              go_roundw
              case rel => exact ⟨j + 1, by omega, by first | rfl | (rw [WJ.out]) | go_num, NX.out, BE.out⟩
              case measure => (try rw [WJ.out]); simp only [intOf, Int.toNat_natCast]; omega
          · have NX := NEXT (fun h => hid h.1)
            have q0 := str_ne hid
            have q1 : (x.id.toList == r.id.toList) = false := beq_eq_false_iff_ne.2 (fun h => by rw [h] at q0; simp at q0)
            clear hid NEXT
            go_wp2_with fail
            refine Loose.wp_region_quiet_fast (by kernel_rfl) (by kernel_rfl) ?_
            (try simp only [List.append_eq, List.cons_append, List.nil_append])
            repeat (go_big_quiet_step (fail))
            refine wpQuiet_nil ?_
            intro _ hw'
            obtain ⟨⟨dq, osq⟩, hw''⟩ := hw'
            subst hw''
            clear k0 k1 k2 k3 q0 q1
            have bQ := below_regrown wr dq osq
            have BE := Lib.hid (stepR HBI.out bQ)
            clear bQ
            go_wp2_with fail
            go_roundw
            case rel => exact ⟨j + 1, by omega, by first | rfl | (rw [WJ.out]) | go_num, NX.out, BE.out⟩
            case measure => (try rw [WJ.out]); simp only [intOf, Int.toNat_natCast]; omega
        · obtain rfl : j = m := by omega
          have hkm : ¬ (j : Int) < (j : Int) := by omega
          have wm : wrap64 ((j : Int) - 1) = (j : Int) - 1 := IntWalk.wrap64_in _ (by omega)
          have NP : Hid (∀ a b (ha : a < L.length) (hb : b < L.length), a < b → j ≤ b → ¬ (L[a].id = L[b].id ∧ L[a].ver = L[b].ver)) := Lib.hid (fun a b ha hb hab hjb => by
            rcases (by omega : j + 1 ≤ b ∨ b = j) with h | h
            · exact HP.out a b ha hb hab h
            · subst h
              have := HPA.out a ha hab
              rw [HR.out] at this
              exact this)
          have OE := Lib.hid (World.ownsRow.kept HOWN6.out (grown_belowR HBI.out) (apartR (by simp)))
          clear hjm
          go_wp2_with fail
          go_roundw
          case rel => exact ⟨j, _, by omega, by first | rfl | (rw [wm]), rfl, OE.out, NP.out, HB5.out⟩
          case measure => (try rw [wm]); simp only [intOf]; omega
theorem ReplayOrder_walk (v0 : Value) (a1 : Int) (w : World) (o0 : Row.Opn Try.prog w 22 v0) (f1 : (Lit.int .u64 a1).wf = true) :
    Calls Try.prog 4 #[v0, .int .u64 a1] w fun e w' => e = .returned (.bool true) ∧ Below w.heap.size w w' := by
  obtain ⟨l, h1, h2, h3⟩ := open_recs o0
  obtain ⟨x, rfl, _⟩ := u64_wf a1 f1
  exact order_main l v0 x w h1 h2 h3
end Go.Proofs.Ytlnhdbbhlcpkbaa.L
