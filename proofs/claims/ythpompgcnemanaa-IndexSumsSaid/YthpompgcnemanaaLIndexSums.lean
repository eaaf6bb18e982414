/- IndexSums: whatever is handed in, the law answers true. No condition. -/
import Derived.Test.YthpompgcnemanaaIo
import Derived.Test.YthpompgcnemanaaGFast
import Derived.BigQuiet
import Derived.Test.YthpompgcnemanaaIs
import Derived.Laws.Cover1
import Derived.Sort.Walk0
namespace Go.Proofs.Ythpompgcnemanaa.L
open Go.RowKit Go.Maps Go.Proofs.Ythpompgcnemanaa.G Go.Proofs.Ythpompgcnemanaa.WordPlain Go.Proofs.Ythpompgcnemanaa.Loose
set_option linter.unusedVariables false
set_option linter.unusedSimpArgs false

theorem str_less {a b : ByteArray} (h : bl8 a < bl8 b) : Op.bytesLess a.toList b.toList = true := by
  rw [bytesLess_eq, ByteArray.toList_eq, ByteArray.toList_eq]
  exact decide_eq_true h
theorem cell_str {w : World} {v : Value} {l : List ByteArray} (h : LR 1 encK w v l) : ∃ oa cap, v = .slice oa l.length cap ∧ ∀ i (hi : i < l.length), ∃ b off, oa = some ⟨b, off, none⟩ ∧ w.cell? ⟨b, off + i, none⟩ = some (.string l[i]) := by
  obtain ⟨oa, cap, rfl, _, hx⟩ := h
  refine ⟨oa, cap, rfl, fun i hi => ?_⟩
  obtain ⟨b, off, h1, h2⟩ := hx i hi
  refine ⟨b, off, h1, ?_⟩
  have := h2 0 _ rfl
  simpa using this
set_option maxRecDepth 100000 in
set_option maxHeartbeats 16000000 in
theorem sums_main (l : List Rec) (ks : List ByteArray) (v u : Value) (w : World) (h : LR 7 encR w v l) (hl : l.length ≤ 140737488351232) (hk : LR 1 encK w u ks) (hks : ∀ k ∈ ks, k.size ≤ 140737488351232) (hkl : ks.length ≤ 140737488351232) :
    Calls Try.prog 4 #[v, u] w fun e w' => e = .returned (.bool true) ∧ Below w.heap.size w w' := by
  obtain ⟨oa, cap, rfl, _, hx⟩ := h
  obtain ⟨n, hn⟩ : ∃ n, n = l.length := ⟨_, rfl⟩
  have fv := filled_val w (.slice oa n cap) l ⟨oa, cap, by rw [hn], by assumption, hx⟩ hl
  rw [← hn] at hl ⊢
  obtain ⟨L, hL⟩ : ∃ L, L = cutsR l 40 := ⟨_, rfl⟩
  rw [← hL] at fv
  have HLS := Lib.hid (show ∀ r ∈ L, r.id.size ≤ 80 ∧ r.va.size ≤ 80 by rw [hL]; exact cutsR_size l 40)
  have HL40 : Hid (L.length ≤ 40) := Lib.hid (by rw [hL]; exact cutsR_len l 40)
  have FV := Lib.hid fv
  obtain ⟨ok, ck, rfl, hkx⟩ := cell_str hk
  obtain ⟨kn, hkn⟩ : ∃ n, n = ks.length := ⟨_, rfl⟩
  rw [← hkn] at hkl ⊢
  have KN := Lib.hid hkn
  have KX := Lib.hid hkx
  have KS := Lib.hid hks
  clear hx hn hL fv hkx hk hkn hks
  go_enter Try.func4, Try.ntmps4
  go_wp2_with fail
  refine FV.out.mono ?_; rintro e w1 ⟨⟨X, bn, bp, rfl, hix, hX, hbn, hbp⟩, hb⟩
  have BB1 := Lib.hid hb
  have LB := Lib.hid (show w.heap.size ≤ X ∧ w.heap.size ≤ bn ∧ w.heap.size ≤ bp from ⟨hX, hbn, hbp⟩)
  have gd := good_fil HL40.out HLS.out
  have hqs : ∀ p s, (fil L L.length).2 p = some s → s.size ≤ 140737488351232 := fun p s h => by
    obtain ⟨k, hk, _, _, _, he⟩ := (fil_q (L := L) _ (Nat.le_refl _) p s).1 h
    have := (HLS.out _ (List.getElem_mem hk)).1
    rw [he] at this
    omega
  obtain ⟨NF, hNF⟩ : ∃ N, N = (fil L L.length).1 := ⟨_, rfl⟩
  obtain ⟨QF, hQF⟩ : ∃ N, N = (fil L L.length).2 := ⟨_, rfl⟩
  rw [← hNF, ← hQF] at hix gd
  rw [← hQF] at hqs
  have IX1 := Lib.hid hix
  have GD1 := Lib.hid gd
  have QSZ := Lib.hid hqs
  clear hix hX hbn hbp hb FV hqs gd hNF hQF
  go_wp2_with fail
  go_loopw [6] (fun i wi => ∃ (q : Nat) (N' : ByteArray → Option Ent), q ≤ kn ∧ q ≤ 10 ∧ i = .int .i64 q ∧ Ix wi X bn bp (40 + q) 40 N' QF ∧ GoodI N' QF ∧ Below w.heap.size w wi) (fun i _ => 10 - (intOf i).toNat)
  case atStart => exact ⟨0, NF, by omega, by omega, rfl, IX1.out, GD1.out, BB1.out⟩
  case round =>
    obtain ⟨q, N', hq, hq10, rfl, hix, hgd, hbl⟩ := hrel
    have IX := Lib.hid hix
    have GD := Lib.hid hgd
    have HB := Lib.hid hbl
    clear hix hgd hbl
    by_cases hlt : q < kn
    · have hkn : (q : Int) < (kn : Int) := by omega
      by_cases h40 : q < 10
      · have hk10 : (q : Int) < 10 := by omega
        have hqk : q < ks.length := by have := KN.out; omega
        obtain ⟨b, off, hoa, hc⟩ := KX.out q hqk
        have hsz := KS.out _ (List.getElem_mem hqk)
        obtain ⟨kq, hkq⟩ : ∃ x, x = ks[q] := ⟨_, rfl⟩
        rw [← hkq] at hc hsz
        have c0 := (HB.out.cell (p := ⟨b, off + q, none⟩) (lt_of_cellR hc)).trans hc
        have KV := Lib.hid (IKill_val wr X bn bp (40 + q) 40 N' QF kq IX.out (by omega) hsz)
        have WJ := Lib.hid (wrI q (by omega))
        subst hoa
        clear hc hsz hkq
        go_wp2_with fail
        refine KV.out.mono ?_; rintro e wa ⟨rfl, hix, hmq⟩
        have IX2 := Lib.hid hix
        have HB2 := Lib.hid (HB.out.trans (hmq.below LB.out.2.1 LB.out.2.2 HB.out.size))
        clear hix hmq KV c0
        go_wp2_with fail
        go_roundw
        case rel => exact ⟨q + 1, killN N' kq, by omega, by omega, by first | rfl | (rw [WJ.out]), IX2.out, GD.out.kill kq, HB2.out⟩
        case measure => (try rw [WJ.out]); simp only [intOf, Int.toNat_natCast]; omega
      · have hk10 : ¬ (q : Int) < 10 := by omega
        clear h40 hlt
        rename World => wo
        obtain ⟨EL, hEL, hELn⟩ := IX.out.news.enum kN_law
        have hEL50 : EL.length ≤ 50 := by omega
        have ENL := Lib.hid hEL
        have GD2 := GD.out
        have BTB := Lib.hid (tot_bd (g := inB) (B := 1) (by decide) (l := EL) (fun sg p _ => inB_b sg p))
        have BTC := Lib.hid (tot_bd (g := inC) (B := 191) (by decide) (l := EL) (fun sg p hp => by
          have := (GD2 _ _ ((hEL.2 p.1 p.2).1 hp)).2.2.2
          unfold inC
          split <;> omega))
        clear hEL hELn GD2
        go_wp2_with fail
        go_loopw [9, 7, 8] (fun sv tv uv wi => ∃ k : Nat, k ≤ 10 ∧ sv = .int .i64 k ∧ tv = .int .i64 (tot inB EL k) ∧ uv = .int .i64 (tot inC EL k) ∧ Below wo.heap.size wo wi) (fun sv _ _ _ => 10 - (intOf sv).toNat)
        case atStart => exact ⟨0, by omega, rfl, rfl, rfl, Below.refl _ _⟩
        case round =>
          obtain ⟨k, hk, rfl, rfl, rfl, hbl⟩ := hrel
          have HB2 := Lib.hid hbl
          clear hbl
          by_cases hlt : k < 10
          · have hk10 : (k : Int) < 10 := by omega
            have IV := Lib.hid (IIn_val wr X bn bp _ _ N' QF (k : Int) (IX.out.below HB2.out) (by omega) (fun i s hs => by have := (GD.out i s hs).2.2.2; omega))
            have hb1 := BTB.out k
            have hb2 := BTC.out k
            have hs1 : tot inB EL (k + 1) = tot inB EL k + (EL.map (inB (k : Int))).sum := rfl
            have hs2 : tot inC EL (k + 1) = tot inC EL k + (EL.map (inC (k : Int))).sum := rfl
            have hlaw := in_law GD.out ENL.out (k : Int)
            obtain ⟨ta, hta⟩ : ∃ x, x = tot inB EL k := ⟨_, rfl⟩
            obtain ⟨tc, htc⟩ : ∃ x, x = tot inC EL k := ⟨_, rfl⟩
            rw [← hta] at hb1 hs1 ⊢
            rw [← htc] at hb2 hs2 ⊢
            obtain ⟨sa, hsa⟩ : ∃ x, x = (EL.map (inA (k : Int))).sum := ⟨_, rfl⟩
            obtain ⟨sb, hsb⟩ : ∃ x, x = (EL.map (inB (k : Int))).sum := ⟨_, rfl⟩
            obtain ⟨sc, hsc⟩ : ∃ x, x = (EL.map (inC (k : Int))).sum := ⟨_, rfl⟩
            rw [← hsb] at hs1 hlaw
            rw [← hsc] at hs2 hlaw
            rw [← hsa] at hlaw
            obtain ⟨l1, l2, l3, l4, l5⟩ := hlaw
            have hta2 : 0 ≤ ta ∧ ta ≤ 1000 := ⟨hb1.1, Int.le_trans hb1.2 (by have : (k : Int) * (1 * (EL.length : Int)) ≤ 10 * (1 * 50) := Int.mul_le_mul (by omega) (by omega) (by omega) (by omega); omega)⟩
            have htc2 : 0 ≤ tc ∧ tc ≤ 200000 := ⟨hb2.1, Int.le_trans hb2.2 (by have : (k : Int) * (191 * (EL.length : Int)) ≤ 10 * (191 * 50) := Int.mul_le_mul (by omega) (by omega) (by omega) (by omega); omega)⟩
            have HSA := Lib.hid hsa
            have HSB := Lib.hid hsb
            have HSC := Lib.hid hsc
            have HS1 := Lib.hid hs1
            have HS2 := Lib.hid hs2
            have WK := Lib.hid (wrI k (by omega))
            have W1_ := Lib.hid (show wrap64 (ta + sb) = ta + sb from IntWalk.wrap64_in _ (by omega))
            have W2_ := Lib.hid (show wrap64 (tc + sc) = tc + sc from IntWalk.wrap64_in _ (by omega))
            have W3_ := Lib.hid (show wrap64 (31 * sb) = 31 * sb from IntWalk.wrap64_in _ (by omega))
            have W4_ := Lib.hid (show wrap64 (191 * sb) = 191 * sb from IntWalk.wrap64_in _ (by omega))
            clear hb1 hb2 hs1 hs2 hta htc hsa hsb hsc
            go_wp2_with fail
            refine IV.out.mono ?_; rintro e wa ⟨⟨c1, c2, c3, rfl, hc⟩, hb⟩
            have hcs := hc _ ENL.out
            have e1 : c1 = sa := hcs.1.trans HSA.out.symm
            have e2 : c2 = sb := hcs.2.1.trans HSB.out.symm
            have e3 : c3 = sc := hcs.2.2.trans HSC.out.symm
            subst e1 e2 e3
            have HB3 := Lib.hid (stepR HB2.out hb)
            have g1 : ¬ c2 > c1 := by omega
            have g2 : ¬ c1 > 4 := by omega
            have g3 : ¬ c2 < 0 := by omega
            have g4 : ¬ c3 < 31 * c2 := by omega
            have g5 : ¬ c3 > 191 * c2 := by omega
            have w3_ := W3_.out
            have w4_ := W4_.out
            clear hb hc hcs IV l1 l2 l3 l4 l5
            go_wp2_with fail
            go_roundw
            case rel => exact ⟨k + 1, by omega, by first | rfl | (rw [WK.out]), by rw [HS1.out], by rw [HS2.out], HB3.out⟩
            case measure => (try rw [WK.out]); simp only [intOf, Int.toNat_natCast]; omega
          · have hk10 : k = 10 := by omega
            subst hk10
            have HBO := Lib.hid (stepR HB.out HB2.out)
            have IXK := Lib.hid (IX.out.below HB2.out)
            have NSZ : Hid (∀ i s, N' i = some s → i.size ≤ 140737488351232) := Lib.hid (fun i s h => QSZ.out _ _ (GD.out i s h).1)
            have IDV := Lib.hid (IIDs_val wr X bn bp _ _ N' QF IXK.out (by omega) NSZ.out)
            obtain ⟨ta, hta⟩ : ∃ x, x = tot inB EL 10 := ⟨_, rfl⟩
            obtain ⟨tc, htc⟩ : ∃ x, x = tot inC EL 10 := ⟨_, rfl⟩
            rw [← hta, ← htc]
            have HTA := Lib.hid hta
            have HTC := Lib.hid htc
            clear hta htc hlt
            go_wp2_with fail
            refine IDV.out.mono ?_; rintro e wd ⟨⟨u, ks', rfl, hkeys, hlen, hlr⟩, hb⟩
            have htk := tot_keys GD.out ENL.out hkeys
            obtain ⟨K, hK⟩ : ∃ K, K = ks'.filter (livB N') := ⟨_, rfl⟩
            have LIV : Hid (∀ k ∈ K, ∃ e, N' k = some e ∧ e.live = true) := Lib.hid (fun k hk => liv_at hkeys (by rw [← hK]; exact hk))
            have SRT : Hid (∀ i j (hi : i < K.length) (hj : j < K.length), i < j → bl8 K[i] < bl8 K[j]) := Lib.hid (by subst hK; exact fun i j hi hj h => liv_lt hkeys hi hj h)
            have KLEN : K.length ≤ 50 := by rw [hK]; exact Nat.le_trans (List.length_filter_le _ _) (by omega)
            rw [← hK] at hlr htk
            obtain ⟨ou, cu, rfl, hcu⟩ := cell_str hlr
            obtain ⟨J, hJ⟩ : ∃ J, J = K.length := ⟨_, rfl⟩
            rw [← hJ] at htk KLEN ⊢
            have e1 : ta = (J : Int) := HTA.out.trans htk.1
            subst e1
            have ETC : Hid (tc = szs N' K) := Lib.hid (HTC.out.trans htk.2)
            have BTC2 : 0 ≤ tc ∧ tc ≤ 9550 := by rw [ETC.out]; have := szs_bd GD.out (K := K); rw [← hJ] at this; omega
            have HKEY := Lib.hid hkeys
            have HKF := Lib.hid hK
            have HJ := Lib.hid hJ
            have CU := Lib.hid hcu
            have HBD := Lib.hid (stepR HBO.out hb)
            have IXD := Lib.hid (IXK.out.below hb)
            clear htk hkeys hlen hlr hK hJ hcu hb IDV HTA HTC
            go_wp2_with fail
            go_loopw [14, 8] (fun jv sv wi => ∃ j : Nat, j ≤ J ∧ jv = .int .i64 j ∧ sv = .int .i64 (tc - szs N' (K.take j)) ∧ Below wd.heap.size wd wi) (fun jv _ _ => J - (intOf jv).toNat)
            case atStart => exact ⟨0, by omega, rfl, by simp [szs], Below.refl _ _⟩
            case round =>
              obtain ⟨j, hj, rfl, rfl, hbl⟩ := hrel
              have HB5 := Lib.hid hbl
              clear hbl
              by_cases hlt : j < J
              · have hjJ : (j : Int) < (J : Int) := by omega
                have hjK : j < K.length := by have := HJ.out; omega
                obtain ⟨b, off, hou, hc⟩ := CU.out j hjK
                obtain ⟨en, hen, hlv⟩ := LIV.out _ (List.getElem_mem hjK)
                have hgd := GD.out _ _ hen
                have hns := NSZ.out _ _ hen
                have htk := szs_take N' hjK
                rw [hen] at htk
                have hb1 := szs_bd GD.out (K := K.take j)
                have hb3 : (K.take j).length ≤ 50 := by rw [List.length_take]; omega
                have hsrt := SRT.out
                obtain ⟨kj, hkj⟩ : ∃ x, x = K[j] := ⟨_, rfl⟩
                rw [← hkj] at hc hen hgd hns
                obtain ⟨sj, hsj⟩ : ∃ x, x = szs N' (K.take j) := ⟨_, rfl⟩
                rw [← hsj] at htk hb1 ⊢
                obtain ⟨ea, ed, el, eu, ev, ex⟩ := en
                obtain ⟨hq, hg1, hg2, hg3⟩ := hgd
                simp only at hlv hq hg1 hg2 hg3
                subst hlv
                have hstep : szs N' (K.take (j + 1)) = sj + eu := htk
                have NV : Hid (Calls Try.prog 16 #[.pointer (some ⟨X, 0, none⟩), .string kj] wr fun e w' => e = .returned (.tuple #[.agg #[.int .u64 (ea : Int), .int .u64 (ed : Int), .bool true, .int .i64 eu, .int .i64 ev, .int .i64 ex], .bool true]) ∧ Below wr.heap.size wr w') := Lib.hid (by
                  have h := INewest_val wr X bn bp _ _ N' QF kj (IXD.out.below HB5.out) hns
                  rw [hen] at h
                  exact h)
                have AV : Hid (∀ W, Below wd.heap.size wd W → Calls Try.prog 17 #[.pointer (some ⟨X, 0, none⟩), .agg #[.int .i64 ev, .int .i64 ex]] W fun e w' => e = .returned (.tuple #[.string kj, .bool true]) ∧ Below W.heap.size W w') := Lib.hid (fun W hW => by
                  have h := IAt_val W X bn bp _ _ N' QF (ev, ex) (IXD.out.below hW) ⟨wf_small (by omega) (by omega), wf_small (by omega) (by omega)⟩
                  rw [hq] at h
                  exact h)
                have c0 := (HB5.out.cell (p := ⟨b, off + j, none⟩) (lt_of_cellR hc)).trans hc
                have HC := Lib.hid hc
                have HST := Lib.hid hstep
                have HKJ := Lib.hid hkj
                have WJ := Lib.hid (wrI j (by omega))
                have WS := Lib.hid (show wrap64 (tc - sj - eu) = tc - sj - eu from IntWalk.wrap64_in _ (by omega))
                have HOU := Lib.hid hou
                subst hou
                clear hc hen hns htk hb1 hb3 hsrt hkj hsj hq hg1 hg2 hg3 hstep
                go_wp2_with fail
                refine NV.out.mono ?_; rintro e wa ⟨rfl, hb⟩
                obtain ⟨w7, hw7⟩ : ∃ W, W = (wa.alloc (.cells #[.int .u64 (ea : Int), .int .u64 (ed : Int), .bool true, .int .i64 eu, .int .i64 ev, .int .i64 ex] (49 : Nat))) := ⟨_, rfl⟩
                have HB7 : Hid (Below wd.heap.size wd w7) := Lib.hid (stepR (stepR HB5.out hb) (by rw [hw7]; exact (Below.refl _ _).alloc (Nat.le_refl _) _))
                have ROW7 : w7.heap[wa.heap.size]? = some (.cells #[.int .u64 (ea : Int), .int .u64 (ed : Int), .bool true, .int .i64 eu, .int .i64 ev, .int .i64 ex] (49 : Nat) (0, 0)) := by rw [hw7]; exact heap_alloc_new _ _
                have g4 : (wa.alloc (.cells #[.int .u64 (ea : Int), .int .u64 (ed : Int), .bool true, .int .i64 eu, .int .i64 ev, .int .i64 ex] (49 : Nat))).cell? ⟨wa.heap.size, 4, none⟩ = some (.int .i64 ev) := by rw [← hw7]; exact (cell_of_row _ _ 4 _ _ _ ROW7).trans rfl
                have g5 : (wa.alloc (.cells #[.int .u64 (ea : Int), .int .u64 (ed : Int), .bool true, .int .i64 eu, .int .i64 ev, .int .i64 ex] (49 : Nat))).cell? ⟨wa.heap.size, 5, none⟩ = some (.int .i64 ex) := by rw [← hw7]; exact (cell_of_row _ _ 5 _ _ _ ROW7).trans rfl
                have HW7 := Lib.hid hw7
                have R7 := Lib.hid ROW7
                clear hb hw7 ROW7 NV c0
                go_wp2_with fail
                rw [← HW7.out]
                refine (AV.out _ HB7.out).mono ?_; rintro e w8 ⟨rfl, hb⟩
                have HB8 := Lib.hid (stepR HB7.out hb)
                have r8 := (hb.block _ (lt_of_rowR R7.out)).trans R7.out
                have hc := HC.out
                have c0 := cell_regrown ((HB8.out.cell (p := ⟨b, off + j, none⟩) (lt_of_cellR hc)).trans hc)
                have g2 := cell_regrown (show w8.cell? ⟨wa.heap.size, 2, none⟩ = some (.bool true) from (cell_of_row _ _ 2 _ _ _ r8).trans rfl)
                have g3 := cell_regrown (show w8.cell? ⟨wa.heap.size, 3, none⟩ = some (.int .i64 eu) from (cell_of_row _ _ 3 _ _ _ r8).trans rfl)
                have R8 := Lib.hid r8
                clear hb r8 hc g4 g5
                by_cases hj0 : j = 0
                · have hj1 : ((j : Int) > 0) = False := eq_false (by omega)
                  have hj2 : decide ((j : Int) > 0) = false := decide_eq_false (by omega)
                  have hj3 : (0 < j) = False := eq_false (by omega)
                  clear hj0
                  go_wp2_with fail
                  refine Loose.wp_region_quiet_fast (by kernel_rfl) (by kernel_rfl) ?_
                  (try simp only [List.append_eq, List.cons_append, List.nil_append])
                  repeat (go_big_quiet_step (fail))
                  refine wpQuiet_nil ?_
                  intro _ hw'
                  obtain ⟨⟨dq, osq⟩, hw''⟩ := hw'
                  subst hw''
                  clear hj1 hj2 hj3
                  have bQ := below_regrown w8 dq osq
                  have HBQ := Lib.hid (stepR HB8.out bQ)
                  have ws := WS.out
                  clear bQ
                  go_wp2_with fail
                  go_roundw
                  case rel => exact ⟨j + 1, by omega, by first | rfl | (rw [WJ.out]), by rw [HST.out, ← Int.sub_sub]; first | rfl | rw [WS.out], HBQ.out⟩
                  case measure => (try rw [WJ.out]); simp only [intOf, Int.toNat_natCast]; omega
                · have hj1 : ((j : Int) > 0) = True := eq_true (by omega)
                  have hj2 : decide ((j : Int) > 0) = true := decide_eq_true (by omega)
                  have hj3 : (0 < j) = True := eq_true (by omega)
                  have hjp : j - 1 < K.length := by have := HJ.out; omega
                  have hlt2 := SRT.out (j - 1) j hjp hjK (by omega)
                  obtain ⟨b2, off2, hou2, hc2⟩ := CU.out (j - 1) hjp
                  injection hou2 with e; injection e with e1 e2; subst e1 e2
                  rw [← HKJ.out] at hlt2
                  obtain ⟨kp, hkp⟩ : ∃ x, x = K[j - 1] := ⟨_, rfl⟩
                  rw [← hkp] at hc2 hlt2
                  have hless : Op.bytesLess kp.toList kj.toList = true := str_less hlt2
                  clear hkp hlt2
                  have c1 := cell_regrown ((HB8.out.cell (p := ⟨b, off + (j - 1), none⟩) (lt_of_cellR hc2)).trans hc2)
                  go_wp2_with fail
                  refine Loose.wp_region_quiet_fast (by kernel_rfl) (by kernel_rfl) ?_
                  (try simp only [List.append_eq, List.cons_append, List.nil_append])
                  repeat (go_big_quiet_step (fail))
                  refine wpQuiet_nil ?_
                  intro _ hw'
                  obtain ⟨⟨dq, osq⟩, hw''⟩ := hw'
                  subst hw''
                  clear hj1 hj2 hj3
                  have bQ := below_regrown w8 dq osq
                  have HBQ := Lib.hid (stepR HB8.out bQ)
                  have ws := WS.out
                  clear bQ
                  go_wp2_with fail
                  go_roundw
                  case rel => exact ⟨j + 1, by omega, by first | rfl | (rw [WJ.out]), by rw [HST.out, ← Int.sub_sub]; first | rfl | rw [WS.out], HBQ.out⟩
                  case measure => (try rw [WJ.out]); simp only [intOf, Int.toNat_natCast]; omega
              · have e : J = j := by omega
                subst e
                have hz : tc - szs N' (K.take J) = 0 := by rw [ETC.out, HJ.out, List.take_length]; omega
                rw [hz]
                have LV := Lib.hid (ILives_val wr X bn bp _ _ N' QF (IXD.out.below HB5.out) (by omega) NSZ.out)
                clear hz hlt
                go_wp2_with fail
                refine LV.out.mono ?_; rintro e wz ⟨⟨ks2, rfl, hks2, hlen2⟩, hb⟩
                have e := keysL_uniq hks2 HKEY.out
                subst e
                rw [← HKF.out, ← HJ.out]
                have HBZ := Lib.hid (stepR HB5.out hb)
                clear hks2 hlen2 hb LV
                go_wp2_with fail
                refine (fixed_val wz).mono ?_; rintro e wy ⟨rfl, hb⟩
                go_wp2_with fail
                go_ret
                exact ⟨rfl, stepR HBD.out (stepR HBZ.out hb)⟩
    · have hkn : ¬ (q : Int) < (kn : Int) := by omega
      clear hlt
      rename World => wo
      obtain ⟨EL, hEL, hELn⟩ := IX.out.news.enum kN_law
      have hEL50 : EL.length ≤ 50 := by omega
      have ENL := Lib.hid hEL
      have GD2 := GD.out
      have BTB := Lib.hid (tot_bd (g := inB) (B := 1) (by decide) (l := EL) (fun sg p _ => inB_b sg p))
      have BTC := Lib.hid (tot_bd (g := inC) (B := 191) (by decide) (l := EL) (fun sg p hp => by
        have := (GD2 _ _ ((hEL.2 p.1 p.2).1 hp)).2.2.2
        unfold inC
        split <;> omega))
      clear hEL hELn GD2
      go_wp2_with fail
      go_loopw [9, 7, 8] (fun sv tv uv wi => ∃ k : Nat, k ≤ 10 ∧ sv = .int .i64 k ∧ tv = .int .i64 (tot inB EL k) ∧ uv = .int .i64 (tot inC EL k) ∧ Below wo.heap.size wo wi) (fun sv _ _ _ => 10 - (intOf sv).toNat)
      case atStart => exact ⟨0, by omega, rfl, rfl, rfl, Below.refl _ _⟩
      case round =>
        obtain ⟨k, hk, rfl, rfl, rfl, hbl⟩ := hrel
        have HB2 := Lib.hid hbl
        clear hbl
        by_cases hlt : k < 10
        · have hk10 : (k : Int) < 10 := by omega
          have IV := Lib.hid (IIn_val wr X bn bp _ _ N' QF (k : Int) (IX.out.below HB2.out) (by omega) (fun i s hs => by have := (GD.out i s hs).2.2.2; omega))
          have hb1 := BTB.out k
          have hb2 := BTC.out k
          have hs1 : tot inB EL (k + 1) = tot inB EL k + (EL.map (inB (k : Int))).sum := rfl
          have hs2 : tot inC EL (k + 1) = tot inC EL k + (EL.map (inC (k : Int))).sum := rfl
          have hlaw := in_law GD.out ENL.out (k : Int)
          obtain ⟨ta, hta⟩ : ∃ x, x = tot inB EL k := ⟨_, rfl⟩
          obtain ⟨tc, htc⟩ : ∃ x, x = tot inC EL k := ⟨_, rfl⟩
          rw [← hta] at hb1 hs1 ⊢
          rw [← htc] at hb2 hs2 ⊢
          obtain ⟨sa, hsa⟩ : ∃ x, x = (EL.map (inA (k : Int))).sum := ⟨_, rfl⟩
          obtain ⟨sb, hsb⟩ : ∃ x, x = (EL.map (inB (k : Int))).sum := ⟨_, rfl⟩
          obtain ⟨sc, hsc⟩ : ∃ x, x = (EL.map (inC (k : Int))).sum := ⟨_, rfl⟩
          rw [← hsb] at hs1 hlaw
          rw [← hsc] at hs2 hlaw
          rw [← hsa] at hlaw
          obtain ⟨l1, l2, l3, l4, l5⟩ := hlaw
          have hta2 : 0 ≤ ta ∧ ta ≤ 1000 := ⟨hb1.1, Int.le_trans hb1.2 (by have : (k : Int) * (1 * (EL.length : Int)) ≤ 10 * (1 * 50) := Int.mul_le_mul (by omega) (by omega) (by omega) (by omega); omega)⟩
          have htc2 : 0 ≤ tc ∧ tc ≤ 200000 := ⟨hb2.1, Int.le_trans hb2.2 (by have : (k : Int) * (191 * (EL.length : Int)) ≤ 10 * (191 * 50) := Int.mul_le_mul (by omega) (by omega) (by omega) (by omega); omega)⟩
          have HSA := Lib.hid hsa
          have HSB := Lib.hid hsb
          have HSC := Lib.hid hsc
          have HS1 := Lib.hid hs1
          have HS2 := Lib.hid hs2
          have WK := Lib.hid (wrI k (by omega))
          have W1_ := Lib.hid (show wrap64 (ta + sb) = ta + sb from IntWalk.wrap64_in _ (by omega))
          have W2_ := Lib.hid (show wrap64 (tc + sc) = tc + sc from IntWalk.wrap64_in _ (by omega))
          have W3_ := Lib.hid (show wrap64 (31 * sb) = 31 * sb from IntWalk.wrap64_in _ (by omega))
          have W4_ := Lib.hid (show wrap64 (191 * sb) = 191 * sb from IntWalk.wrap64_in _ (by omega))
          clear hb1 hb2 hs1 hs2 hta htc hsa hsb hsc
          go_wp2_with fail
          refine IV.out.mono ?_; rintro e wa ⟨⟨c1, c2, c3, rfl, hc⟩, hb⟩
          have hcs := hc _ ENL.out
          have e1 : c1 = sa := hcs.1.trans HSA.out.symm
          have e2 : c2 = sb := hcs.2.1.trans HSB.out.symm
          have e3 : c3 = sc := hcs.2.2.trans HSC.out.symm
          subst e1 e2 e3
          have HB3 := Lib.hid (stepR HB2.out hb)
          have g1 : ¬ c2 > c1 := by omega
          have g2 : ¬ c1 > 4 := by omega
          have g3 : ¬ c2 < 0 := by omega
          have g4 : ¬ c3 < 31 * c2 := by omega
          have g5 : ¬ c3 > 191 * c2 := by omega
          have w3_ := W3_.out
          have w4_ := W4_.out
          clear hb hc hcs IV l1 l2 l3 l4 l5
          go_wp2_with fail
          go_roundw
          case rel => exact ⟨k + 1, by omega, by first | rfl | (rw [WK.out]), by rw [HS1.out], by rw [HS2.out], HB3.out⟩
          case measure => (try rw [WK.out]); simp only [intOf, Int.toNat_natCast]; omega
        · have hk10 : k = 10 := by omega
          subst hk10
          have HBO := Lib.hid (stepR HB.out HB2.out)
          have IXK := Lib.hid (IX.out.below HB2.out)
          have NSZ : Hid (∀ i s, N' i = some s → i.size ≤ 140737488351232) := Lib.hid (fun i s h => QSZ.out _ _ (GD.out i s h).1)
          have IDV := Lib.hid (IIDs_val wr X bn bp _ _ N' QF IXK.out (by omega) NSZ.out)
          obtain ⟨ta, hta⟩ : ∃ x, x = tot inB EL 10 := ⟨_, rfl⟩
          obtain ⟨tc, htc⟩ : ∃ x, x = tot inC EL 10 := ⟨_, rfl⟩
          rw [← hta, ← htc]
          have HTA := Lib.hid hta
          have HTC := Lib.hid htc
          clear hta htc hlt
          go_wp2_with fail
          refine IDV.out.mono ?_; rintro e wd ⟨⟨u, ks', rfl, hkeys, hlen, hlr⟩, hb⟩
          have htk := tot_keys GD.out ENL.out hkeys
          obtain ⟨K, hK⟩ : ∃ K, K = ks'.filter (livB N') := ⟨_, rfl⟩
          have LIV : Hid (∀ k ∈ K, ∃ e, N' k = some e ∧ e.live = true) := Lib.hid (fun k hk => liv_at hkeys (by rw [← hK]; exact hk))
          have SRT : Hid (∀ i j (hi : i < K.length) (hj : j < K.length), i < j → bl8 K[i] < bl8 K[j]) := Lib.hid (by subst hK; exact fun i j hi hj h => liv_lt hkeys hi hj h)
          have KLEN : K.length ≤ 50 := by rw [hK]; exact Nat.le_trans (List.length_filter_le _ _) (by omega)
          rw [← hK] at hlr htk
          obtain ⟨ou, cu, rfl, hcu⟩ := cell_str hlr
          obtain ⟨J, hJ⟩ : ∃ J, J = K.length := ⟨_, rfl⟩
          rw [← hJ] at htk KLEN ⊢
          have e1 : ta = (J : Int) := HTA.out.trans htk.1
          subst e1
          have ETC : Hid (tc = szs N' K) := Lib.hid (HTC.out.trans htk.2)
          have BTC2 : 0 ≤ tc ∧ tc ≤ 9550 := by rw [ETC.out]; have := szs_bd GD.out (K := K); rw [← hJ] at this; omega
          have HKEY := Lib.hid hkeys
          have HKF := Lib.hid hK
          have HJ := Lib.hid hJ
          have CU := Lib.hid hcu
          have HBD := Lib.hid (stepR HBO.out hb)
          have IXD := Lib.hid (IXK.out.below hb)
          clear htk hkeys hlen hlr hK hJ hcu hb IDV HTA HTC
          go_wp2_with fail
          go_loopw [14, 8] (fun jv sv wi => ∃ j : Nat, j ≤ J ∧ jv = .int .i64 j ∧ sv = .int .i64 (tc - szs N' (K.take j)) ∧ Below wd.heap.size wd wi) (fun jv _ _ => J - (intOf jv).toNat)
          case atStart => exact ⟨0, by omega, rfl, by simp [szs], Below.refl _ _⟩
          case round =>
            obtain ⟨j, hj, rfl, rfl, hbl⟩ := hrel
            have HB5 := Lib.hid hbl
            clear hbl
            by_cases hlt : j < J
            · have hjJ : (j : Int) < (J : Int) := by omega
              have hjK : j < K.length := by have := HJ.out; omega
              obtain ⟨b, off, hou, hc⟩ := CU.out j hjK
              obtain ⟨en, hen, hlv⟩ := LIV.out _ (List.getElem_mem hjK)
              have hgd := GD.out _ _ hen
              have hns := NSZ.out _ _ hen
              have htk := szs_take N' hjK
              rw [hen] at htk
              have hb1 := szs_bd GD.out (K := K.take j)
              have hb3 : (K.take j).length ≤ 50 := by rw [List.length_take]; omega
              have hsrt := SRT.out
              obtain ⟨kj, hkj⟩ : ∃ x, x = K[j] := ⟨_, rfl⟩
              rw [← hkj] at hc hen hgd hns
              obtain ⟨sj, hsj⟩ : ∃ x, x = szs N' (K.take j) := ⟨_, rfl⟩
              rw [← hsj] at htk hb1 ⊢
              obtain ⟨ea, ed, el, eu, ev, ex⟩ := en
              obtain ⟨hq, hg1, hg2, hg3⟩ := hgd
              simp only at hlv hq hg1 hg2 hg3
              subst hlv
              have hstep : szs N' (K.take (j + 1)) = sj + eu := htk
              have NV : Hid (Calls Try.prog 16 #[.pointer (some ⟨X, 0, none⟩), .string kj] wr fun e w' => e = .returned (.tuple #[.agg #[.int .u64 (ea : Int), .int .u64 (ed : Int), .bool true, .int .i64 eu, .int .i64 ev, .int .i64 ex], .bool true]) ∧ Below wr.heap.size wr w') := Lib.hid (by
                have h := INewest_val wr X bn bp _ _ N' QF kj (IXD.out.below HB5.out) hns
                rw [hen] at h
                exact h)
              have AV : Hid (∀ W, Below wd.heap.size wd W → Calls Try.prog 17 #[.pointer (some ⟨X, 0, none⟩), .agg #[.int .i64 ev, .int .i64 ex]] W fun e w' => e = .returned (.tuple #[.string kj, .bool true]) ∧ Below W.heap.size W w') := Lib.hid (fun W hW => by
                have h := IAt_val W X bn bp _ _ N' QF (ev, ex) (IXD.out.below hW) ⟨wf_small (by omega) (by omega), wf_small (by omega) (by omega)⟩
                rw [hq] at h
                exact h)
              have c0 := (HB5.out.cell (p := ⟨b, off + j, none⟩) (lt_of_cellR hc)).trans hc
              have HC := Lib.hid hc
              have HST := Lib.hid hstep
              have HKJ := Lib.hid hkj
              have WJ := Lib.hid (wrI j (by omega))
              have WS := Lib.hid (show wrap64 (tc - sj - eu) = tc - sj - eu from IntWalk.wrap64_in _ (by omega))
              have HOU := Lib.hid hou
              subst hou
              clear hc hen hns htk hb1 hb3 hsrt hkj hsj hq hg1 hg2 hg3 hstep
              go_wp2_with fail
              refine NV.out.mono ?_; rintro e wa ⟨rfl, hb⟩
              obtain ⟨w7, hw7⟩ : ∃ W, W = (wa.alloc (.cells #[.int .u64 (ea : Int), .int .u64 (ed : Int), .bool true, .int .i64 eu, .int .i64 ev, .int .i64 ex] (49 : Nat))) := ⟨_, rfl⟩
              have HB7 : Hid (Below wd.heap.size wd w7) := Lib.hid (stepR (stepR HB5.out hb) (by rw [hw7]; exact (Below.refl _ _).alloc (Nat.le_refl _) _))
              have ROW7 : w7.heap[wa.heap.size]? = some (.cells #[.int .u64 (ea : Int), .int .u64 (ed : Int), .bool true, .int .i64 eu, .int .i64 ev, .int .i64 ex] (49 : Nat) (0, 0)) := by rw [hw7]; exact heap_alloc_new _ _
              have g4 : (wa.alloc (.cells #[.int .u64 (ea : Int), .int .u64 (ed : Int), .bool true, .int .i64 eu, .int .i64 ev, .int .i64 ex] (49 : Nat))).cell? ⟨wa.heap.size, 4, none⟩ = some (.int .i64 ev) := by rw [← hw7]; exact (cell_of_row _ _ 4 _ _ _ ROW7).trans rfl
              have g5 : (wa.alloc (.cells #[.int .u64 (ea : Int), .int .u64 (ed : Int), .bool true, .int .i64 eu, .int .i64 ev, .int .i64 ex] (49 : Nat))).cell? ⟨wa.heap.size, 5, none⟩ = some (.int .i64 ex) := by rw [← hw7]; exact (cell_of_row _ _ 5 _ _ _ ROW7).trans rfl
              have HW7 := Lib.hid hw7
              have R7 := Lib.hid ROW7
              clear hb hw7 ROW7 NV c0
              go_wp2_with fail
              rw [← HW7.out]
              refine (AV.out _ HB7.out).mono ?_; rintro e w8 ⟨rfl, hb⟩
              have HB8 := Lib.hid (stepR HB7.out hb)
              have r8 := (hb.block _ (lt_of_rowR R7.out)).trans R7.out
              have hc := HC.out
              have c0 := cell_regrown ((HB8.out.cell (p := ⟨b, off + j, none⟩) (lt_of_cellR hc)).trans hc)
              have g2 := cell_regrown (show w8.cell? ⟨wa.heap.size, 2, none⟩ = some (.bool true) from (cell_of_row _ _ 2 _ _ _ r8).trans rfl)
              have g3 := cell_regrown (show w8.cell? ⟨wa.heap.size, 3, none⟩ = some (.int .i64 eu) from (cell_of_row _ _ 3 _ _ _ r8).trans rfl)
              have R8 := Lib.hid r8
              clear hb r8 hc g4 g5
              by_cases hj0 : j = 0
              · have hj1 : ((j : Int) > 0) = False := eq_false (by omega)
                have hj2 : decide ((j : Int) > 0) = false := decide_eq_false (by omega)
                have hj3 : (0 < j) = False := eq_false (by omega)
                clear hj0
                go_wp2_with fail
                refine Loose.wp_region_quiet_fast (by kernel_rfl) (by kernel_rfl) ?_
                (try simp only [List.append_eq, List.cons_append, List.nil_append])
                repeat (go_big_quiet_step (fail))
                refine wpQuiet_nil ?_
                intro _ hw'
                obtain ⟨⟨dq, osq⟩, hw''⟩ := hw'
                subst hw''
                clear hj1 hj2 hj3
                have bQ := below_regrown w8 dq osq
                have HBQ := Lib.hid (stepR HB8.out bQ)
                have ws := WS.out
                clear bQ
                go_wp2_with fail
                go_roundw
                case rel => exact ⟨j + 1, by omega, by first | rfl | (rw [WJ.out]), by rw [HST.out, ← Int.sub_sub]; first | rfl | rw [WS.out], HBQ.out⟩
                case measure => (try rw [WJ.out]); simp only [intOf, Int.toNat_natCast]; omega
              · have hj1 : ((j : Int) > 0) = True := eq_true (by omega)
                have hj2 : decide ((j : Int) > 0) = true := decide_eq_true (by omega)
                have hj3 : (0 < j) = True := eq_true (by omega)
                have hjp : j - 1 < K.length := by have := HJ.out; omega
                have hlt2 := SRT.out (j - 1) j hjp hjK (by omega)
                obtain ⟨b2, off2, hou2, hc2⟩ := CU.out (j - 1) hjp
                injection hou2 with e; injection e with e1 e2; subst e1 e2
                rw [← HKJ.out] at hlt2
                obtain ⟨kp, hkp⟩ : ∃ x, x = K[j - 1] := ⟨_, rfl⟩
                rw [← hkp] at hc2 hlt2
                have hless : Op.bytesLess kp.toList kj.toList = true := str_less hlt2
                clear hkp hlt2
                have c1 := cell_regrown ((HB8.out.cell (p := ⟨b, off + (j - 1), none⟩) (lt_of_cellR hc2)).trans hc2)
                go_wp2_with fail
                refine Loose.wp_region_quiet_fast (by kernel_rfl) (by kernel_rfl) ?_
                (try simp only [List.append_eq, List.cons_append, List.nil_append])
                repeat (go_big_quiet_step (fail))
                refine wpQuiet_nil ?_
                intro _ hw'
                obtain ⟨⟨dq, osq⟩, hw''⟩ := hw'
                subst hw''
                clear hj1 hj2 hj3
                have bQ := below_regrown w8 dq osq
                have HBQ := Lib.hid (stepR HB8.out bQ)
                have ws := WS.out
                clear bQ
                go_wp2_with fail
                go_roundw
                case rel => exact ⟨j + 1, by omega, by first | rfl | (rw [WJ.out]), by rw [HST.out, ← Int.sub_sub]; first | rfl | rw [WS.out], HBQ.out⟩
                case measure => (try rw [WJ.out]); simp only [intOf, Int.toNat_natCast]; omega
            · have e : J = j := by omega
              subst e
              have hz : tc - szs N' (K.take J) = 0 := by rw [ETC.out, HJ.out, List.take_length]; omega
              rw [hz]
              have LV := Lib.hid (ILives_val wr X bn bp _ _ N' QF (IXD.out.below HB5.out) (by omega) NSZ.out)
              clear hz hlt
              go_wp2_with fail
              refine LV.out.mono ?_; rintro e wz ⟨⟨ks2, rfl, hks2, hlen2⟩, hb⟩
              have e := keysL_uniq hks2 HKEY.out
              subst e
              rw [← HKF.out, ← HJ.out]
              have HBZ := Lib.hid (stepR HB5.out hb)
              clear hks2 hlen2 hb LV
              go_wp2_with fail
              refine (fixed_val wz).mono ?_; rintro e wy ⟨rfl, hb⟩
              go_wp2_with fail
              go_ret
              exact ⟨rfl, stepR HBD.out (stepR HBZ.out hb)⟩
theorem IndexSums_walk (v0 v1 : Value) (w : World) (o0 : Row.Opn Try.prog w 41 v0) (o1 : Row.Opn Try.prog w 42 v1) :
    Calls Try.prog 4 #[v0, v1] w fun e w' => e = .returned (.bool true) ∧ Below w.heap.size w w' := by
  obtain ⟨l, h1, h2, h3⟩ := open_recs o0
  obtain ⟨ks, k1, k2, k3⟩ := open_strs o1
  exact sums_main l ks v0 v1 w h1 h3 k1 k2 k3
end Go.Proofs.Ythpompgcnemanaa.L
