/- ReplayLater: whatever is handed in, the law answers true. No condition. -/
import Derived.Test.YtlnhdbbhlcpkbaaRo
import Derived.Test.YtlnhdbbhlcpkbaaRq
import Derived.Test.YtlnhdbbhlcpkbaaGFast
import Derived.BigQuiet
namespace Go.Proofs.Ytlnhdbbhlcpkbaa.L
open Go.RowKit Go.Maps Go.Proofs.Ytlnhdbbhlcpkbaa.G Go.Proofs.Ytlnhdbbhlcpkbaa.WordPlain Go.Proofs.Ytlnhdbbhlcpkbaa.Loose
set_option linter.unusedVariables false
set_option linter.unusedSimpArgs false

theorem sesL_later {now later : Nat} (h : now ≤ later) (N : List Rec) : sesL later N = (sesL now N).filter (fun x => decide (later < x.dl)) := by
  unfold sesL
  rw [List.filter_map, List.filter_filter]
  congr 1
  apply List.filter_congr
  intro r _
  simp only [Function.comp]
  by_cases h1 : r.kind = 1 <;> by_cases h2 : later < r.dl <;> simp [h1, h2] <;> omega
theorem sesL_mem {now : Nat} {N : List Rec} {x : Ses} (h : x ∈ sesL now N) : now < x.dl := by
  unfold sesL at h
  obtain ⟨r, hr, rfl⟩ := List.mem_map.1 h
  have := (List.mem_filter.1 hr).2
  simp at this
  exact this.2
theorem sesL_max {N : List Rec} (h : ∀ r ∈ N, r.Kind) : sesL 18446744073709551615 N = [] := by
  unfold sesL
  rw [List.map_eq_nil_iff, List.filter_eq_nil_iff]
  intro r hr
  have := (h r hr).dl
  simp
  intro _
  omega
/-- what is left of both -/
def Rest (p : Nat) (A B : List Ses) (k i : Nat) : Prop := (A.drop k).filter (fun x => decide (p < x.dl)) = B.drop i
theorem Rest.cons {p : Nat} {A B : List Ses} {k i : Nat} (h : Rest p A B k i) (hk : k < A.length) : (if p < A[k].dl then [A[k]] else []) ++ (A.drop (k + 1)).filter (fun x => decide (p < x.dl)) = B.drop i := by
  unfold Rest at h
  rw [← h, List.drop_eq_getElem_cons hk, List.filter_cons]
  by_cases hp : p < A[k].dl <;> simp [hp]
theorem Rest.no {p : Nat} {A B : List Ses} {k i : Nat} (h : Rest p A B k i) (hk : k < A.length) (hp : ¬ p < A[k].dl) : Rest p A B (k + 1) i := by
  have := h.cons hk
  rw [if_neg hp, List.nil_append] at this
  exact this
theorem Rest.ne {p : Nat} {A B : List Ses} {k i : Nat} (h : Rest p A B k i) (hk : k < A.length) (hi : i < B.length) (hn : A[k] ≠ B[i]) : ¬ p < A[k].dl := by
  intro hp
  have := h.cons hk
  rw [if_pos hp, List.drop_eq_getElem_cons hi, List.singleton_append] at this
  injection this with e _
  exact hn e
theorem Rest.eq {p : Nat} {A B : List Ses} {k i : Nat} (h : Rest p A B k i) (hk : k < A.length) (hi : i < B.length) (hn : A[k] = B[i]) (hp : p < B[i].dl) : Rest p A B (k + 1) (i + 1) := by
  have := h.cons hk
  rw [← hn] at hp
  rw [if_pos hp, List.drop_eq_getElem_cons hi, List.singleton_append] at this
  exact (List.cons.inj this).2
theorem Rest.fin {p : Nat} {A B : List Ses} {i : Nat} (h : Rest p A B A.length i) (hi : i < B.length) : False := by
  unfold Rest at h
  rw [List.drop_length, List.drop_eq_getElem_cons hi] at h
  cases h
theorem Rest.over {p : Nat} {A B : List Ses} {k : Nat} (h : Rest p A B k B.length) (j : Nat) (hkj : k ≤ j) (hj : j < A.length) : ¬ p < A[j].dl := by
  unfold Rest at h
  rw [List.drop_length, List.filter_eq_nil_iff] at h
  have h1 := h A[j] (by
    rw [List.mem_iff_getElem]
    refine ⟨j - k, by rw [List.length_drop]; omega, ?_⟩
    rw [List.getElem_drop]
    congr 1
    omega)
  intro hp
  exact h1 (decide_eq_true hp)
set_option maxRecDepth 100000 in
set_option maxHeartbeats 8000000 in
theorem later_main (l : List Rec) (v : Value) (now more p : Nat) (w : World) (hnow : now < 18446744073709551616) (hmore : more < 18446744073709551616) (hpp : p = if now + more < 18446744073709551616 then now + more else 18446744073709551615) (hv : LR 7 encR w v l) (hkl : ∀ r ∈ l, r.Kind) (hll : l.length ≤ 140737488351232) :
    Calls Try.prog 6 #[v, .int .u64 (now : Int), .int .u64 (more : Int)] w fun e w' => e = .returned (.bool true) ∧ Below w.heap.size w w' := by
  have c1 := Cut_val w v l 40 hv hll (by decide)
  have l1 := cutsR_len l 40
  have k1 := cutsR_kind l 40 hkl
  obtain ⟨L, hL⟩ : ∃ x, x = cutsR l 40 := ⟨_, rfl⟩
  rw [← hL] at c1 l1 k1
  have C1 := Lib.hid c1
  have K1 := Lib.hid k1
  obtain ⟨oav, capv, hvv, _⟩ := hv
  subst hvv
  have HLL := Lib.hid (show L.length ≤ 1000000 by omega)
  obtain ⟨N, hNN⟩ : ∃ x, x = newL L := ⟨_, rfl⟩
  have NL := Lib.hid (show N.length ≤ 40 by rw [hNN]; exact Nat.le_trans (newL_len L) (by omega))
  have NK := Lib.hid (show ∀ r ∈ N, r.Kind from fun r hr => k1 r (by rw [hNN] at hr; exact (newL_sub L r hr).1))
  have HNN := Lib.hid hNN
  have HNP := Lib.hid (show now ≤ p by rw [hpp]; split <;> omega)
  have HP := Lib.hid hpp
  clear c1 l1 k1 hL hkl hll hNN hpp
  go_enter Try.func6, Try.ntmps6
  go_wp2_with fail
  refine C1.out.mono ?_; rintro e w1 ⟨⟨u1, rfl, o1⟩, b1⟩
  have LR1 := Lib.hid (own_lr (k := 7) (enc := encR) (fun _ => rfl) o1)
  have BW1 := Lib.hid b1
  have sa := Sessions_val w1 u1 L now LR1.out HLL.out K1.out
  have sb := fun W (h : Below w1.heap.size w1 W) => Sessions_val W u1 L p (LR1.out.below h (Nat.le_refl _)) HLL.out K1.out
  have sx := fun W (h : Below w1.heap.size w1 W) => Sessions_val W u1 L 18446744073709551615 (LR1.out.below h (Nat.le_refl _)) HLL.out K1.out
  rw [← HNN.out] at sa sb sx
  rw [sesL_max NK.out] at sx
  have SA := Lib.hid sa
  have SB := Lib.hid sb
  have SX := Lib.hid sx
  obtain ⟨A, hA⟩ : ∃ x, x = sesL now N := ⟨_, rfl⟩
  obtain ⟨B, hB⟩ : ∃ x, x = sesL p N := ⟨_, rfl⟩
  rw [← hA] at SA
  rw [← hB] at SB
  have REST := Lib.hid (show Rest p A B 0 0 by unfold Rest; rw [List.drop_zero, List.drop_zero, hA, hB, sesL_later HNP.out])
  have AM := Lib.hid (show ∀ x ∈ A, now < x.dl from fun x hx => sesL_mem (by rw [hA] at hx; exact hx))
  have BM := Lib.hid (show ∀ x ∈ B, p < x.dl from fun x hx => sesL_mem (by rw [hB] at hx; exact hx))
  obtain ⟨nA, hnA⟩ : ∃ x, x = A.length := ⟨_, rfl⟩
  obtain ⟨nB, hnB⟩ : ∃ x, x = B.length := ⟨_, rfl⟩
  have A40 : nA ≤ 40 := by rw [hnA, hA]; exact Nat.le_trans (sesL_len _ _) NL.out
  have B40 : nB ≤ 40 := by rw [hnB, hB]; exact Nat.le_trans (sesL_len _ _) NL.out
  have HNA := Lib.hid hnA
  have HNB := Lib.hid hnB
  clear o1 b1 sa sb sx hA hB C1 hnA hnB
  by_cases hov : now + more < 18446744073709551616
  · have ep : ((now : Int) + (more : Int)) = (p : Int) := by rw [HP.out, if_pos hov]; omega
    have wu : IntKind.u64.wrap ((now : Int) + (more : Int)) = (p : Int) := by rw [ep]; exact IntWalk.u64_in _ (by have := HP.out; rw [if_pos hov] at this; omega)
    have c0 : (p < now) = False := eq_false (by have := HNP.out; omega)
    clear hov ep
    go_wp2_with fail
    clear wu c0
    refine SA.out.mono ?_; rintro e w2 ⟨⟨u2, rfl, h2⟩, b2⟩
    have hb := SB.out w2 b2
    have HB2 := Lib.hid hb
    have B2 := Lib.hid b2
    have H2 := Lib.hid h2
    clear hb b2 h2
    go_wp2_with fail
    refine HB2.out.mono ?_; rintro e w3 ⟨⟨u3, rfl, h3⟩, b3⟩
    have B3 := Lib.hid (stepR B2.out b3)
    obtain ⟨oA, cA, hfA, -, hxA⟩ := H2.out.below b3 (Nat.le_refl _)
    obtain ⟨oB, cB, hfB, -, hxB⟩ := h3
    subst hfA hfB
    have ATA := Lib.hid hxA
    have ATB := Lib.hid hxB
    rw [← HNA.out, ← HNB.out]
    clear b3 hxA hxB H2 HB2
    go_wp2_with fail
    go_loopw [10, 11] (fun kv iv wr => ∃ (k i : Nat), k ≤ nA ∧ i ≤ nB ∧ kv = .int .i64 k ∧ iv = .int .i64 i ∧ Rest p A B k i ∧ Below w3.heap.size w3 wr) (fun _ i _ => nB - (intOf i).toNat)
    case atStart => exact ⟨0, 0, by omega, by omega, rfl, rfl, REST.out, Below.refl _ _⟩
    case round =>
      obtain ⟨k, i, hk, hi, rfl, rfl, hre, hbl⟩ := hrel
      have RE := Lib.hid hre
      have HB := Lib.hid hbl
      clear hre hbl
      by_cases hlt : i < nB
      · have hki : (i : Int) < (nB : Int) := by omega
        have hiB : i < B.length := by have := HNB.out; omega
        obtain ⟨y, hy⟩ : ∃ y, y = B[i] := ⟨_, rfl⟩
        obtain ⟨bb, ob, hoB, hcb⟩ := ATB.out i hiB
        rw [← hy] at hcb
        have HY := Lib.hid hy
        have YM := Lib.hid (show p < y.dl by rw [hy]; exact BM.out _ (List.getElem_mem _))
        have CB := Lib.hid hcb
        subst hoB
        have WI := Lib.hid (wrR i (by omega))
        clear hy hcb
        go_wp2_with fail
        go_loopw [10] (fun kv wi => ∃ (j : Nat), j ≤ nA ∧ kv = .int .i64 j ∧ Rest p A B j i ∧ Below wr.heap.size wr wi) (fun kv _ => nA - (intOf kv).toNat)
        case atStart => exact ⟨k, hk, rfl, RE.out, Below.refl _ _⟩
        case round =>
          obtain ⟨j, hj, rfl, hre, hbi⟩ := hrel
          have RJ := Lib.hid hre
          have HBI := Lib.hid hbi
          have HB3 := Lib.hid (stepR HB.out hbi)
          clear hre hbi
          have hjA : j < nA := by
            rcases Nat.lt_or_ge j nA with h | h
            · exact h
            · exact absurd ((show j = A.length by have := HNA.out; omega) ▸ RJ.out) (fun h => h.fin hiB)
          have hjl : j < A.length := by have := HNA.out; omega
          have hkj : (j : Int) < (nA : Int) := by omega
          obtain ⟨x, hx⟩ : ∃ x, x = A[j] := ⟨_, rfl⟩
          obtain ⟨ba, oa, hoA, hca⟩ := ATA.out j hjl
          rw [← hx] at hca
          have HX := Lib.hid hx
          have ca := fun q u hu => (HB3.out.cell (p := ⟨ba, oa + j * 3 + q, none⟩) (lt_of_cellR (hca q u hu))).trans (hca q u hu)
          have cb := fun q u hu => (HB3.out.cell (p := ⟨bb, ob + i * 3 + q, none⟩) (lt_of_cellR (CB.out q u hu))).trans (CB.out q u hu)
          subst hoA
          have WJ := Lib.hid (wrR j (by omega))
          have a0 : wr.cell? ⟨ba, oa + j * 3, none⟩ = some (.string x.id) := ca 0 _ rfl
          have a1 : wr.cell? ⟨ba, oa + j * 3 + 1, none⟩ = some (.string x.va) := ca 1 _ rfl
          have a2 : wr.cell? ⟨ba, oa + j * 3 + 2, none⟩ = some (.int .u64 (x.dl : Int)) := ca 2 _ rfl
          have b0 : wr.cell? ⟨bb, ob + i * 3, none⟩ = some (.string y.id) := cb 0 _ rfl
          have b1 : wr.cell? ⟨bb, ob + i * 3 + 1, none⟩ = some (.string y.va) := cb 1 _ rfl
          have b2 : wr.cell? ⟨bb, ob + i * 3 + 2, none⟩ = some (.int .u64 (y.dl : Int)) := cb 2 _ rfl
          have a0' := cell_regrown a0
          have a1' := cell_regrown a1
          have a2' := cell_regrown a2
          have b0' := cell_regrown b0
          have b1' := cell_regrown b1
          have b2' := cell_regrown b2
          have CA := Lib.hid ca
          have CB3 := Lib.hid cb
          clear hx hca ca cb a0 a1 a2 b0 b1 b2
          by_cases hxy : x = y
          · have RN := Lib.hid (RJ.out.eq hjl hiB (by rw [← HX.out, ← HY.out]; exact hxy) (BM.out _ (List.getElem_mem _)))
            have e1 : (x.id.toList == y.id.toList) = true := by rw [hxy]; exact beq_self_eq_true _
            have e2 : (x.va.toList == y.va.toList) = true := by rw [hxy]; exact beq_self_eq_true _
            have e3 : ((x.dl : Int) == (y.dl : Int)) = true := by rw [hxy]; exact beq_self_eq_true _
            subst hxy
            clear hjA
            go_wp2_with fail
            refine Loose.wp_region_quiet_fast (by kernel_rfl) (by kernel_rfl) ?_
            (try simp only [List.append_eq, List.cons_append, List.nil_append])
            repeat (go_big_quiet_step (fail))
            refine wpQuiet_nil ?_
            intro _ hw'
            obtain ⟨⟨dq, osq⟩, hw''⟩ := hw'
            subst hw''
            clear a0' a1' a2' b0' b1' e1 e2 e3
            have bQ := below_regrown wr dq osq
            have BE := Lib.hid (stepR HB3.out bQ)
            clear bQ
            have q0 : (j = nA) = False := eq_false (by omega)
            have q1 : ((j : Int) == (nA : Int)) = false := beq_eq_false_iff_ne.2 (by omega)
            have q2 : ((j : Int) = (nA : Int)) = False := eq_false (by omega)
            have q3 : (x.dl ≤ p) = False := eq_false (by have := YM.out; omega)
            have q4 : ((x.dl : Int) ≤ (p : Int)) = False := eq_false (by have := YM.out; omega)
            have q5 := b2' dq osq
            clear b2'
            go_wp2_with fail
            go_roundw
            case rel => exact ⟨j + 1, i + 1, by omega, by omega, by first | rfl | (rw [WJ.out]) | go_num, by first | rfl | (rw [WI.out]) | go_num, RN.out, BE.out⟩
            case measure => (try rw [WI.out]); simp only [intOf, Int.toNat_natCast]; omega
          · have NP := RJ.out.ne hjl hiB (by rw [← HX.out, ← HY.out]; exact hxy)
            have RN := Lib.hid (RJ.out.no hjl (by rw [← HX.out]; rw [← HX.out] at NP; exact NP))
            rw [← HX.out] at NP
            have n0 : (p < x.dl) = False := eq_false NP
            have n1 : ((p : Int) < (x.dl : Int)) = False := eq_false (by omega)
            have n2 : (x.dl ≤ p) = True := eq_true (by omega)
            have n3 : ((x.dl : Int) ≤ (p : Int)) = True := eq_true (by omega)
            clear NP
            by_cases hid : x.id = y.id
            · by_cases hva : x.va = y.va
              · have hdl : x.dl ≠ y.dl := fun h => hxy (by cases x; cases y; simp only at hid hva h; subst hid hva h; rfl)
                have q0 : (y.id.toList == y.id.toList) = true := beq_self_eq_true _
                have q1 : (y.va.toList == y.va.toList) = true := beq_self_eq_true _
                have q2 : ((x.dl : Int) == (y.dl : Int)) = false := beq_eq_false_iff_ne.2 (by omega)
                have q3 : ((x.dl : Int) = (y.dl : Int)) = False := eq_false (by omega)
                have q4 : (x.dl = y.dl) = False := eq_false hdl
                rw [hid] at a0'
                rw [hva] at a1'
                clear hid hva hdl hxy hjA
                go_wp2_with fail
                refine Loose.wp_region_quiet_fast (by kernel_rfl) (by kernel_rfl) ?_
                (try simp only [List.append_eq, List.cons_append, List.nil_append])
                repeat (go_big_quiet_step (fail))
                refine wpQuiet_nil ?_
                intro _ hw'
                obtain ⟨⟨dq, osq⟩, hw''⟩ := hw'
                subst hw''
                clear a0' a1' b0' b1' b2' q0 q1 q2 q3 q4
                have bQ := below_regrown wr dq osq
                have BE := Lib.hid (stepR HBI.out bQ)
                clear bQ
                have q5 := a2' dq osq
                clear a2'
                go_wp2_with fail
                go_roundw
                case rel => exact ⟨j + 1, by omega, by first | rfl | (rw [WJ.out]) | go_num, RN.out, BE.out⟩
                case measure => (try rw [WJ.out]); simp only [intOf, Int.toNat_natCast]; omega
              · have q0 : (y.id.toList == y.id.toList) = true := beq_self_eq_true _
                have q1 := str_ne hva
                have q2 : (x.va.toList == y.va.toList) = false := beq_eq_false_iff_ne.2 (fun h => by rw [h] at q1; simp at q1)
                have q3 : (x.va = y.va) = False := eq_false hva
                have q4 : True := trivial
                rw [hid] at a0'
                clear hid hva hxy hjA
                go_wp2_with fail
                refine Loose.wp_region_quiet_fast (by kernel_rfl) (by kernel_rfl) ?_
                (try simp only [List.append_eq, List.cons_append, List.nil_append])
                repeat (go_big_quiet_step (fail))
                refine wpQuiet_nil ?_
                intro _ hw'
                obtain ⟨⟨dq, osq⟩, hw''⟩ := hw'
                subst hw''
                clear a0' a1' b0' b1' b2' q0 q1 q2 q3 q4
                have bQ := below_regrown wr dq osq
                have BE := Lib.hid (stepR HBI.out bQ)
                clear bQ
                have q5 := a2' dq osq
                clear a2'
                go_wp2_with fail
                go_roundw
                case rel => exact ⟨j + 1, by omega, by first | rfl | (rw [WJ.out]) | go_num, RN.out, BE.out⟩
                case measure => (try rw [WJ.out]); simp only [intOf, Int.toNat_natCast]; omega
            · have q0 := str_ne hid
              have q1 : (x.id.toList == y.id.toList) = false := beq_eq_false_iff_ne.2 (fun h => by rw [h] at q0; simp at q0)
              have q2 : (x.id = y.id) = False := eq_false hid
              have q3 : True := trivial
              have q4 : True := trivial
              clear hid hxy hjA
              go_wp2_with fail
              refine Loose.wp_region_quiet_fast (by kernel_rfl) (by kernel_rfl) ?_
              (try simp only [List.append_eq, List.cons_append, List.nil_append])
              repeat (go_big_quiet_step (fail))
              refine wpQuiet_nil ?_
              intro _ hw'
              obtain ⟨⟨dq, osq⟩, hw''⟩ := hw'
              subst hw''
              clear a0' a1' b0' b1' b2' q0 q1 q2 q3 q4
              have bQ := below_regrown wr dq osq
              have BE := Lib.hid (stepR HBI.out bQ)
              clear bQ
              have q5 := a2' dq osq
              clear a2'
              go_wp2_with fail
              go_roundw
              case rel => exact ⟨j + 1, by omega, by first | rfl | (rw [WJ.out]) | go_num, RN.out, BE.out⟩
              case measure => (try rw [WJ.out]); simp only [intOf, Int.toNat_natCast]; omega
      · obtain rfl : i = nB := by omega
        have OV := Lib.hid (fun j hkj (hj : j < A.length) => (show Rest p A B k B.length from HNB.out ▸ RE.out).over j hkj hj)
        clear hlt
        go_wp2_with fail
        go_loopw [12] (fun iv wi => ∃ (j : Nat), k ≤ j ∧ j ≤ nA ∧ iv = .int .i64 j ∧ Below wr.heap.size wr wi) (fun iv _ => nA - (intOf iv).toNat)
        case atStart => exact ⟨k, Nat.le_refl _, hk, rfl, Below.refl _ _⟩
        case round =>
          obtain ⟨j, hkj, hj, rfl, hbi⟩ := hrel
          have HB3 := Lib.hid (stepR HB.out hbi)
          have HBI := Lib.hid hbi
          clear hbi
          by_cases hjA : j < nA
          · have hjl : j < A.length := by have := HNA.out; omega
            have hjc : (j : Int) < (nA : Int) := by omega
            obtain ⟨x, hx⟩ : ∃ x, x = A[j] := ⟨_, rfl⟩
            obtain ⟨ba, oa, hoA, hca⟩ := ATA.out j hjl
            rw [← hx] at hca
            have NP := OV.out j hkj hjl
            have NM := AM.out _ (List.getElem_mem hjl)
            rw [← hx] at NP NM
            have ca := fun q u hu => (HB3.out.cell (p := ⟨ba, oa + j * 3 + q, none⟩) (lt_of_cellR (hca q u hu))).trans (hca q u hu)
            have a2 : wr.cell? ⟨ba, oa + j * 3 + 2, none⟩ = some (.int .u64 (x.dl : Int)) := ca 2 _ rfl
            subst hoA
            have WJ := Lib.hid (wrR j (by omega))
            have n0 : (p < x.dl) = False := eq_false NP
            have n1 : ((p : Int) < (x.dl : Int)) = False := eq_false (by omega)
            have n2 : (x.dl ≤ p) = True := eq_true (by omega)
            have n3 : ((x.dl : Int) ≤ (p : Int)) = True := eq_true (by omega)
            have n4 : (x.dl ≤ now) = False := eq_false (by omega)
            have n5 : (now < x.dl) = True := eq_true (by omega)
            clear hx hca ca NP NM
            go_wp2_with fail
            go_roundw
            case rel => exact ⟨j + 1, by omega, by omega, by first | rfl | (rw [WJ.out]) | go_num, HBI.out⟩
            case measure => (try rw [WJ.out]); simp only [intOf, Int.toNat_natCast]; omega
          · obtain rfl : j = nA := by omega
            clear hjA
            have sx := SX.out wr (stepR B3.out HB3.out)
            have SY := Lib.hid sx
            clear sx
            go_wp2_with fail
            refine SY.out.mono ?_; rintro e w5 ⟨⟨u5, rfl, h5⟩, b5⟩
            obtain ⟨a5, c5, hf5⟩ := h5.form
            subst hf5
            have B5 := Lib.hid (stepR BW1.out (stepR B3.out (stepR HB3.out b5)))
            clear b5 h5 SY
            go_wp2_with fail
            refine (fixed_val w5).mono ?_; rintro e w6 ⟨rfl, b6⟩
            go_wp2_with fail
            go_ret
            exact ⟨rfl, stepR B5.out b6⟩
  · have ep : p = 18446744073709551615 := by rw [HP.out, if_neg hov]
    obtain ⟨z, hz⟩ : ∃ z, z = now + more - 18446744073709551616 := ⟨_, rfl⟩
    have wu : IntKind.u64.wrap ((now : Int) + (more : Int)) = (z : Int) := by rw [IntKind.wrap_u64]; omega
    have c0 : (z < now) = True := eq_true (by omega)
    clear hov hz
    subst ep
    go_wp2_with fail
    clear wu c0
    refine SA.out.mono ?_; rintro e w2 ⟨⟨u2, rfl, h2⟩, b2⟩
    have hb := SB.out w2 b2
    have HB2 := Lib.hid hb
    have B2 := Lib.hid b2
    have H2 := Lib.hid h2
    clear hb b2 h2
    go_wp2_with fail
    refine HB2.out.mono ?_; rintro e w3 ⟨⟨u3, rfl, h3⟩, b3⟩
    have B3 := Lib.hid (stepR B2.out b3)
    obtain ⟨oA, cA, hfA, -, hxA⟩ := H2.out.below b3 (Nat.le_refl _)
    obtain ⟨oB, cB, hfB, -, hxB⟩ := h3
    subst hfA hfB
    have ATA := Lib.hid hxA
    have ATB := Lib.hid hxB
    rw [← HNA.out, ← HNB.out]
    clear b3 hxA hxB H2 HB2
    go_wp2_with fail
    go_loopw [10, 11] (fun kv iv wr => ∃ (k i : Nat), k ≤ nA ∧ i ≤ nB ∧ kv = .int .i64 k ∧ iv = .int .i64 i ∧ Rest 18446744073709551615 A B k i ∧ Below w3.heap.size w3 wr) (fun _ i _ => nB - (intOf i).toNat)
    case atStart => exact ⟨0, 0, by omega, by omega, rfl, rfl, REST.out, Below.refl _ _⟩
    case round =>
      obtain ⟨k, i, hk, hi, rfl, rfl, hre, hbl⟩ := hrel
      have RE := Lib.hid hre
      have HB := Lib.hid hbl
      clear hre hbl
      by_cases hlt : i < nB
      · have hki : (i : Int) < (nB : Int) := by omega
        have hiB : i < B.length := by have := HNB.out; omega
        obtain ⟨y, hy⟩ : ∃ y, y = B[i] := ⟨_, rfl⟩
        obtain ⟨bb, ob, hoB, hcb⟩ := ATB.out i hiB
        rw [← hy] at hcb
        have HY := Lib.hid hy
        have YM := Lib.hid (show 18446744073709551615 < y.dl by rw [hy]; exact BM.out _ (List.getElem_mem _))
        have CB := Lib.hid hcb
        subst hoB
        have WI := Lib.hid (wrR i (by omega))
        clear hy hcb
        go_wp2_with fail
        go_loopw [10] (fun kv wi => ∃ (j : Nat), j ≤ nA ∧ kv = .int .i64 j ∧ Rest 18446744073709551615 A B j i ∧ Below wr.heap.size wr wi) (fun kv _ => nA - (intOf kv).toNat)
        case atStart => exact ⟨k, hk, rfl, RE.out, Below.refl _ _⟩
        case round =>
          obtain ⟨j, hj, rfl, hre, hbi⟩ := hrel
          have RJ := Lib.hid hre
          have HBI := Lib.hid hbi
          have HB3 := Lib.hid (stepR HB.out hbi)
          clear hre hbi
          have hjA : j < nA := by
            rcases Nat.lt_or_ge j nA with h | h
            · exact h
            · exact absurd ((show j = A.length by have := HNA.out; omega) ▸ RJ.out) (fun h => h.fin hiB)
          have hjl : j < A.length := by have := HNA.out; omega
          have hkj : (j : Int) < (nA : Int) := by omega
          obtain ⟨x, hx⟩ : ∃ x, x = A[j] := ⟨_, rfl⟩
          obtain ⟨ba, oa, hoA, hca⟩ := ATA.out j hjl
          rw [← hx] at hca
          have HX := Lib.hid hx
          have ca := fun q u hu => (HB3.out.cell (p := ⟨ba, oa + j * 3 + q, none⟩) (lt_of_cellR (hca q u hu))).trans (hca q u hu)
          have cb := fun q u hu => (HB3.out.cell (p := ⟨bb, ob + i * 3 + q, none⟩) (lt_of_cellR (CB.out q u hu))).trans (CB.out q u hu)
          subst hoA
          have WJ := Lib.hid (wrR j (by omega))
          have a0 : wr.cell? ⟨ba, oa + j * 3, none⟩ = some (.string x.id) := ca 0 _ rfl
          have a1 : wr.cell? ⟨ba, oa + j * 3 + 1, none⟩ = some (.string x.va) := ca 1 _ rfl
          have a2 : wr.cell? ⟨ba, oa + j * 3 + 2, none⟩ = some (.int .u64 (x.dl : Int)) := ca 2 _ rfl
          have b0 : wr.cell? ⟨bb, ob + i * 3, none⟩ = some (.string y.id) := cb 0 _ rfl
          have b1 : wr.cell? ⟨bb, ob + i * 3 + 1, none⟩ = some (.string y.va) := cb 1 _ rfl
          have b2 : wr.cell? ⟨bb, ob + i * 3 + 2, none⟩ = some (.int .u64 (y.dl : Int)) := cb 2 _ rfl
          have a0' := cell_regrown a0
          have a1' := cell_regrown a1
          have a2' := cell_regrown a2
          have b0' := cell_regrown b0
          have b1' := cell_regrown b1
          have b2' := cell_regrown b2
          have CA := Lib.hid ca
          have CB3 := Lib.hid cb
          clear hx hca ca cb a0 a1 a2 b0 b1 b2
          by_cases hxy : x = y
          · have RN := Lib.hid (RJ.out.eq hjl hiB (by rw [← HX.out, ← HY.out]; exact hxy) (BM.out _ (List.getElem_mem _)))
            have e1 : (x.id.toList == y.id.toList) = true := by rw [hxy]; exact beq_self_eq_true _
            have e2 : (x.va.toList == y.va.toList) = true := by rw [hxy]; exact beq_self_eq_true _
            have e3 : ((x.dl : Int) == (y.dl : Int)) = true := by rw [hxy]; exact beq_self_eq_true _
            subst hxy
            clear hjA
            go_wp2_with fail
            refine Loose.wp_region_quiet_fast (by kernel_rfl) (by kernel_rfl) ?_
            (try simp only [List.append_eq, List.cons_append, List.nil_append])
            repeat (go_big_quiet_step (fail))
            refine wpQuiet_nil ?_
            intro _ hw'
            obtain ⟨⟨dq, osq⟩, hw''⟩ := hw'
            subst hw''
            clear a0' a1' a2' b0' b1' e1 e2 e3
            have bQ := below_regrown wr dq osq
            have BE := Lib.hid (stepR HB3.out bQ)
            clear bQ
            have q0 : (j = nA) = False := eq_false (by omega)
            have q1 : ((j : Int) == (nA : Int)) = false := beq_eq_false_iff_ne.2 (by omega)
            have q2 : ((j : Int) = (nA : Int)) = False := eq_false (by omega)
            have q3 : (x.dl ≤ 18446744073709551615) = False := eq_false (by have := YM.out; omega)
            have q4 : ((x.dl : Int) ≤ 18446744073709551615) = False := eq_false (by have := YM.out; omega)
            have q5 := b2' dq osq
            clear b2'
            go_wp2_with fail
            go_roundw
            case rel => exact ⟨j + 1, i + 1, by omega, by omega, by first | rfl | (rw [WJ.out]) | go_num, by first | rfl | (rw [WI.out]) | go_num, RN.out, BE.out⟩
            case measure => (try rw [WI.out]); simp only [intOf, Int.toNat_natCast]; omega
          · have NP := RJ.out.ne hjl hiB (by rw [← HX.out, ← HY.out]; exact hxy)
            have RN := Lib.hid (RJ.out.no hjl (by rw [← HX.out]; rw [← HX.out] at NP; exact NP))
            rw [← HX.out] at NP
            have n0 : (18446744073709551615 < x.dl) = False := eq_false NP
            have n1 : (18446744073709551615 < (x.dl : Int)) = False := eq_false (by omega)
            have n2 : (x.dl ≤ 18446744073709551615) = True := eq_true (by omega)
            have n3 : ((x.dl : Int) ≤ 18446744073709551615) = True := eq_true (by omega)
            clear NP
            by_cases hid : x.id = y.id
            · by_cases hva : x.va = y.va
              · have hdl : x.dl ≠ y.dl := fun h => hxy (by cases x; cases y; simp only at hid hva h; subst hid hva h; rfl)
                have q0 : (y.id.toList == y.id.toList) = true := beq_self_eq_true _
                have q1 : (y.va.toList == y.va.toList) = true := beq_self_eq_true _
                have q2 : ((x.dl : Int) == (y.dl : Int)) = false := beq_eq_false_iff_ne.2 (by omega)
                have q3 : ((x.dl : Int) = (y.dl : Int)) = False := eq_false (by omega)
                have q4 : (x.dl = y.dl) = False := eq_false hdl
                rw [hid] at a0'
                rw [hva] at a1'
                clear hid hva hdl hxy hjA
                go_wp2_with fail
                refine Loose.wp_region_quiet_fast (by kernel_rfl) (by kernel_rfl) ?_
                (try simp only [List.append_eq, List.cons_append, List.nil_append])
                repeat (go_big_quiet_step (fail))
                refine wpQuiet_nil ?_
                intro _ hw'
                obtain ⟨⟨dq, osq⟩, hw''⟩ := hw'
                subst hw''
                clear a0' a1' b0' b1' b2' q0 q1 q2 q3 q4
                have bQ := below_regrown wr dq osq
                have BE := Lib.hid (stepR HBI.out bQ)
                clear bQ
                have q5 := a2' dq osq
                clear a2'
                go_wp2_with fail
                go_roundw
                case rel => exact ⟨j + 1, by omega, by first | rfl | (rw [WJ.out]) | go_num, RN.out, BE.out⟩
                case measure => (try rw [WJ.out]); simp only [intOf, Int.toNat_natCast]; omega
              · have q0 : (y.id.toList == y.id.toList) = true := beq_self_eq_true _
                have q1 := str_ne hva
                have q2 : (x.va.toList == y.va.toList) = false := beq_eq_false_iff_ne.2 (fun h => by rw [h] at q1; simp at q1)
                have q3 : (x.va = y.va) = False := eq_false hva
                have q4 : True := trivial
                rw [hid] at a0'
                clear hid hva hxy hjA
                go_wp2_with fail
                refine Loose.wp_region_quiet_fast (by kernel_rfl) (by kernel_rfl) ?_
                (try simp only [List.append_eq, List.cons_append, List.nil_append])
                repeat (go_big_quiet_step (fail))
                refine wpQuiet_nil ?_
                intro _ hw'
                obtain ⟨⟨dq, osq⟩, hw''⟩ := hw'
                subst hw''
                clear a0' a1' b0' b1' b2' q0 q1 q2 q3 q4
                have bQ := below_regrown wr dq osq
                have BE := Lib.hid (stepR HBI.out bQ)
                clear bQ
                have q5 := a2' dq osq
                clear a2'
                go_wp2_with fail
                go_roundw
                case rel => exact ⟨j + 1, by omega, by first | rfl | (rw [WJ.out]) | go_num, RN.out, BE.out⟩
                case measure => (try rw [WJ.out]); simp only [intOf, Int.toNat_natCast]; omega
            · have q0 := str_ne hid
              have q1 : (x.id.toList == y.id.toList) = false := beq_eq_false_iff_ne.2 (fun h => by rw [h] at q0; simp at q0)
              have q2 : (x.id = y.id) = False := eq_false hid
              have q3 : True := trivial
              have q4 : True := trivial
              clear hid hxy hjA
              go_wp2_with fail
              refine Loose.wp_region_quiet_fast (by kernel_rfl) (by kernel_rfl) ?_
              (try simp only [List.append_eq, List.cons_append, List.nil_append])
              repeat (go_big_quiet_step (fail))
              refine wpQuiet_nil ?_
              intro _ hw'
              obtain ⟨⟨dq, osq⟩, hw''⟩ := hw'
              subst hw''
              clear a0' a1' b0' b1' b2' q0 q1 q2 q3 q4
              have bQ := below_regrown wr dq osq
              have BE := Lib.hid (stepR HBI.out bQ)
              clear bQ
              have q5 := a2' dq osq
              clear a2'
              go_wp2_with fail
              go_roundw
              case rel => exact ⟨j + 1, by omega, by first | rfl | (rw [WJ.out]) | go_num, RN.out, BE.out⟩
              case measure => (try rw [WJ.out]); simp only [intOf, Int.toNat_natCast]; omega
      · obtain rfl : i = nB := by omega
        have OV := Lib.hid (fun j hkj (hj : j < A.length) => (show Rest 18446744073709551615 A B k B.length from HNB.out ▸ RE.out).over j hkj hj)
        clear hlt
        go_wp2_with fail
        go_loopw [12] (fun iv wi => ∃ (j : Nat), k ≤ j ∧ j ≤ nA ∧ iv = .int .i64 j ∧ Below wr.heap.size wr wi) (fun iv _ => nA - (intOf iv).toNat)
        case atStart => exact ⟨k, Nat.le_refl _, hk, rfl, Below.refl _ _⟩
        case round =>
          obtain ⟨j, hkj, hj, rfl, hbi⟩ := hrel
          have HB3 := Lib.hid (stepR HB.out hbi)
          have HBI := Lib.hid hbi
          clear hbi
          by_cases hjA : j < nA
          · have hjl : j < A.length := by have := HNA.out; omega
            have hjc : (j : Int) < (nA : Int) := by omega
            obtain ⟨x, hx⟩ : ∃ x, x = A[j] := ⟨_, rfl⟩
            obtain ⟨ba, oa, hoA, hca⟩ := ATA.out j hjl
            rw [← hx] at hca
            have NP := OV.out j hkj hjl
            have NM := AM.out _ (List.getElem_mem hjl)
            rw [← hx] at NP NM
            have ca := fun q u hu => (HB3.out.cell (p := ⟨ba, oa + j * 3 + q, none⟩) (lt_of_cellR (hca q u hu))).trans (hca q u hu)
            have a2 : wr.cell? ⟨ba, oa + j * 3 + 2, none⟩ = some (.int .u64 (x.dl : Int)) := ca 2 _ rfl
            subst hoA
            have WJ := Lib.hid (wrR j (by omega))
            have n0 : (18446744073709551615 < x.dl) = False := eq_false NP
            have n1 : (18446744073709551615 < (x.dl : Int)) = False := eq_false (by omega)
            have n2 : (x.dl ≤ 18446744073709551615) = True := eq_true (by omega)
            have n3 : ((x.dl : Int) ≤ 18446744073709551615) = True := eq_true (by omega)
            have n4 : (x.dl ≤ now) = False := eq_false (by omega)
            have n5 : (now < x.dl) = True := eq_true (by omega)
            clear hx hca ca NP NM
            go_wp2_with fail
            go_roundw
            case rel => exact ⟨j + 1, by omega, by omega, by first | rfl | (rw [WJ.out]) | go_num, HBI.out⟩
            case measure => (try rw [WJ.out]); simp only [intOf, Int.toNat_natCast]; omega
          · obtain rfl : j = nA := by omega
            clear hjA
            have sx := SX.out wr (stepR B3.out HB3.out)
            have SY := Lib.hid sx
            clear sx
            go_wp2_with fail
            refine SY.out.mono ?_; rintro e w5 ⟨⟨u5, rfl, h5⟩, b5⟩
            obtain ⟨a5, c5, hf5⟩ := h5.form
            subst hf5
            have B5 := Lib.hid (stepR BW1.out (stepR B3.out (stepR HB3.out b5)))
            clear b5 h5 SY
            go_wp2_with fail
            refine (fixed_val w5).mono ?_; rintro e w6 ⟨rfl, b6⟩
            go_wp2_with fail
            go_ret
            exact ⟨rfl, stepR B5.out b6⟩

theorem ReplayLater_walk (v0 : Value) (a1 a2 : Int) (w : World) (o0 : Row.Opn Try.prog w 22 v0) (f1 : (Lit.int .u64 a1).wf = true) (f2 : (Lit.int .u64 a2).wf = true) :
    Calls Try.prog 6 #[v0, .int .u64 a1, .int .u64 a2] w fun e w' => e = .returned (.bool true) ∧ Below w.heap.size w w' := by
  obtain ⟨l, h1, h2, h3⟩ := open_recs o0
  obtain ⟨x, rfl, hx⟩ := u64_wf a1 f1
  obtain ⟨y, rfl, hy⟩ := u64_wf a2 f2
  exact later_main l v0 x y _ w hx hy rfl h1 h2 h3
end Go.Proofs.Ytlnhdbbhlcpkbaa.L
