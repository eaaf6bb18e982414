/- IndexOrder: whatever is handed in, the law answers true. No condition. -/
import Derived.Test.YthpompgcnemanaaIo
import Derived.Test.YthpompgcnemanaaGFast
import Derived.BigQuiet
import Derived.Test.YthpompgcnemanaaIz
namespace Go.Proofs.Ythpompgcnemanaa.L
open Go.RowKit Go.Maps Go.Proofs.Ythpompgcnemanaa.G Go.Proofs.Ythpompgcnemanaa.WordPlain Go.Proofs.Ythpompgcnemanaa.Loose
set_option linter.unusedVariables false
set_option linter.unusedSimpArgs false

theorem ix_mq {w w' : World} {X bn bp n m p b : Nat} {N : ByteArray → Option Ent} {Q : Plc → Option ByteArray} (h : Ix w X bn bp n m N Q) (k : Mq p b w w') (d : (X ≠ p ∧ X ≠ b) ∧ (bn ≠ p ∧ bn ≠ b) ∧ bp ≠ p ∧ bp ≠ b) : Ix w' X bn bp n m N Q :=
  h.keep (k.block _ h.lts.1 d.1.1 d.1.2) (k.block _ h.lts.2.1 d.2.1.1 d.2.1.2) (k.block _ h.lts.2.2 d.2.2.1 d.2.2.2)
set_option maxRecDepth 100000 in
set_option maxHeartbeats 16000000 in
theorem order_main (l : List Rec) (v : Value) (w : World) (h : LR 7 encR w v l) (hl : l.length ≤ 140737488351232) :
    Calls Try.prog 7 #[v] w fun e w' => e = .returned (.bool true) ∧ Below w.heap.size w w' := by
  obtain ⟨oa, cap, rfl, _, hx⟩ := h
  obtain ⟨n, hn⟩ : ∃ n, n = l.length := ⟨_, rfl⟩
  rw [← hn] at hl ⊢
  obtain ⟨L, hL⟩ : ∃ L, L = cutsR l 30 := ⟨_, rfl⟩
  have HLL : Hid (L.length = min 30 n) := Lib.hid (by rw [hL, hn]; unfold cutsR; rw [List.length_take, List.length_map])
  have HLA := Lib.hid (show ∀ k (h1 : k < l.length) (h2 : k < L.length), L[k] = l[k].cut from fun k h1 h2 => by subst hL; exact (cutsR_at h2).2.2 h1)
  have HLS := Lib.hid (show ∀ r ∈ L, r.id.size ≤ 80 ∧ r.va.size ≤ 80 by rw [hL]; exact cutsR_size l 30)
  have AT := Lib.hid hx
  have HN := Lib.hid hn
  obtain ⟨M, hM⟩ : ∃ M, M = L.length := ⟨_, rfl⟩
  have HM := Lib.hid hM
  clear hx hn hL hM
  go_enter Try.func7, Try.ntmps7
  go_wp2_with fail
  refine (INew_val _).mono ?_; rintro e w1 ⟨⟨X, bn, bp, rfl, hix, hX, hbn, hbp⟩, hb⟩
  have IX1 := Lib.hid hix
  have LBX := Lib.hid (show w.heap.size ≤ X ∧ w.heap.size ≤ bn ∧ w.heap.size ≤ bp from ⟨hX, hbn, hbp⟩)
  have BB1 := Lib.hid hb
  clear hix hX hbn hbp hb
  go_wp2_with fail
  refine (INew_val _).mono ?_; rintro e w2 ⟨⟨Y, cn, cp, rfl, hiy, hY, hcn, hcp⟩, hb⟩
  have IY2 := Lib.hid hiy
  have LBY := Lib.hid (show w1.heap.size ≤ Y ∧ w1.heap.size ≤ cn ∧ w1.heap.size ≤ cp from ⟨hY, hcn, hcp⟩)
  have IX2 := Lib.hid (IX1.out.below hb)
  have BB2 := Lib.hid (stepR BB1.out hb)
  clear hiy hY hcn hcp hb
  go_wp2_with fail
  rw [show min (n : Int) 30 = (M : Int) from by have := HLL.out; have := HM.out; omega]
  have hM30 : M ≤ 30 := by have := HLL.out; have := HM.out; omega
  have hMn : M ≤ n := by have := HLL.out; have := HM.out; omega
  go_loopw [6] (fun i wr => ∃ q : Nat, q ≤ M ∧ i = .int .i64 q ∧ (∀ j k (hj : j < L.length) (hk : k < L.length), j < q → k < j → ¬ (L[k].id = L[j].id ∧ L[k].ver = L[j].ver)) ∧ Below w2.heap.size w2 wr) (fun i _ => M - (intOf i).toNat)
  case atStart => exact ⟨0, by omega, rfl, (fun j k _ _ h => absurd h (Nat.not_lt_zero _)), Below.refl _ _⟩
  case round =>
    obtain ⟨q, hq, rfl, hd, hbl⟩ := hrel
    have HD := Lib.hid hd
    have HB := Lib.hid hbl
    clear hd hbl
    by_cases hlt : q < M
    · have hqM : (q : Int) < (M : Int) := by omega
      have WQ := Lib.hid (wrI q (by omega))
      go_wp2_with fail
      go_loopw [7] (fun kv wi => ∃ k : Nat, k ≤ q ∧ kv = .int .i64 k ∧ (∀ k' (hk : k' < L.length) (hq' : q < L.length), k' < k → ¬ (L[k'].id = L[q].id ∧ L[k'].ver = L[q].ver)) ∧ Below w2.heap.size w2 wi) (fun kv _ => q - (intOf kv).toNat)
      case atStart => exact ⟨0, by omega, rfl, (fun k' _ _ h => absurd h (Nat.not_lt_zero _)), HB.out⟩
      case round =>
        obtain ⟨k, hk, rfl, hd2, hbi⟩ := hrel
        have HD2 := Lib.hid hd2
        have HBI := Lib.hid hbi
        clear hd2 hbi
        by_cases hkq : k < q
        · have hkq2 : (k : Int) < (q : Int) := by omega
          have hkl : k < l.length := by have := HLL.out; have := HN.out; have := HM.out; omega
          have hql : q < l.length := by have := HLL.out; have := HN.out; have := HM.out; omega
          have hkL : k < L.length := by have := HM.out; omega
          have hqL : q < L.length := by have := HM.out; omega
          have hkn : (k : Int) < (n : Int) := by omega
          have hqn : (q : Int) < (n : Int) := by omega
          obtain ⟨b, off, hoa, xh⟩ := AT.out k hkl
          obtain ⟨b2, off2, hoa2, yh⟩ := AT.out q hql
          rw [hoa] at hoa2; injection hoa2 with e; injection e with e1 e2; subst e1 e2
          have xcut := HLA.out k hkl hkL
          have ycut := HLA.out q hql hqL
          obtain ⟨x, hx⟩ : ∃ r, r = l[k] := ⟨_, rfl⟩
          obtain ⟨y, hy⟩ : ∃ r, r = l[q] := ⟨_, rfl⟩
          rw [← hx] at xh xcut
          rw [← hy] at yh ycut
          obtain ⟨xc, hxc⟩ : ∃ r, r = L[k] := ⟨_, rfl⟩
          obtain ⟨yc, hyc⟩ : ∃ r, r = L[q] := ⟨_, rfl⟩
          rw [← hxc] at xcut
          rw [← hyc] at ycut
          have x0 := cell_regrown (show wr.cell? ⟨b, off + k * 7, none⟩ = some (.int .u64 (x.lsn : Int)) from ((stepR BB2.out HBI.out).cell (p := ⟨b, off + k * 7, none⟩) (lt_of_cellR (xh 0 _ rfl))).trans (xh 0 _ rfl))
          have x1 := cell_regrown (show wr.cell? ⟨b, off + k * 7 + 1, none⟩ = some (.int .u32 (x.ep : Int)) from ((stepR BB2.out HBI.out).cell (p := ⟨b, off + k * 7 + 1, none⟩) (lt_of_cellR (xh 1 _ rfl))).trans (xh 1 _ rfl))
          have x2 := cell_regrown (show wr.cell? ⟨b, off + k * 7 + 2, none⟩ = some (.int .i64 x.kind) from ((stepR BB2.out HBI.out).cell (p := ⟨b, off + k * 7 + 2, none⟩) (lt_of_cellR (xh 2 _ rfl))).trans (xh 2 _ rfl))
          have x3 := cell_regrown (show wr.cell? ⟨b, off + k * 7 + 3, none⟩ = some (.int .u64 (x.ver : Int)) from ((stepR BB2.out HBI.out).cell (p := ⟨b, off + k * 7 + 3, none⟩) (lt_of_cellR (xh 3 _ rfl))).trans (xh 3 _ rfl))
          have x4 := cell_regrown (show wr.cell? ⟨b, off + k * 7 + 4, none⟩ = some (.int .u64 (x.dl : Int)) from ((stepR BB2.out HBI.out).cell (p := ⟨b, off + k * 7 + 4, none⟩) (lt_of_cellR (xh 4 _ rfl))).trans (xh 4 _ rfl))
          have x5 := cell_regrown (show wr.cell? ⟨b, off + k * 7 + 5, none⟩ = some (.string x.id) from ((stepR BB2.out HBI.out).cell (p := ⟨b, off + k * 7 + 5, none⟩) (lt_of_cellR (xh 5 _ rfl))).trans (xh 5 _ rfl))
          have x6 := cell_regrown (show wr.cell? ⟨b, off + k * 7 + 6, none⟩ = some (.string x.va) from ((stepR BB2.out HBI.out).cell (p := ⟨b, off + k * 7 + 6, none⟩) (lt_of_cellR (xh 6 _ rfl))).trans (xh 6 _ rfl))
          have y0 := cell_regrown (show wr.cell? ⟨b, off + q * 7, none⟩ = some (.int .u64 (y.lsn : Int)) from ((stepR BB2.out HBI.out).cell (p := ⟨b, off + q * 7, none⟩) (lt_of_cellR (yh 0 _ rfl))).trans (yh 0 _ rfl))
          have y1 := cell_regrown (show wr.cell? ⟨b, off + q * 7 + 1, none⟩ = some (.int .u32 (y.ep : Int)) from ((stepR BB2.out HBI.out).cell (p := ⟨b, off + q * 7 + 1, none⟩) (lt_of_cellR (yh 1 _ rfl))).trans (yh 1 _ rfl))
          have y2 := cell_regrown (show wr.cell? ⟨b, off + q * 7 + 2, none⟩ = some (.int .i64 y.kind) from ((stepR BB2.out HBI.out).cell (p := ⟨b, off + q * 7 + 2, none⟩) (lt_of_cellR (yh 2 _ rfl))).trans (yh 2 _ rfl))
          have y3 := cell_regrown (show wr.cell? ⟨b, off + q * 7 + 3, none⟩ = some (.int .u64 (y.ver : Int)) from ((stepR BB2.out HBI.out).cell (p := ⟨b, off + q * 7 + 3, none⟩) (lt_of_cellR (yh 3 _ rfl))).trans (yh 3 _ rfl))
          have y4 := cell_regrown (show wr.cell? ⟨b, off + q * 7 + 4, none⟩ = some (.int .u64 (y.dl : Int)) from ((stepR BB2.out HBI.out).cell (p := ⟨b, off + q * 7 + 4, none⟩) (lt_of_cellR (yh 4 _ rfl))).trans (yh 4 _ rfl))
          have y5 := cell_regrown (show wr.cell? ⟨b, off + q * 7 + 5, none⟩ = some (.string y.id) from ((stepR BB2.out HBI.out).cell (p := ⟨b, off + q * 7 + 5, none⟩) (lt_of_cellR (yh 5 _ rfl))).trans (yh 5 _ rfl))
          have y6 := cell_regrown (show wr.cell? ⟨b, off + q * 7 + 6, none⟩ = some (.string y.va) from ((stepR BB2.out HBI.out).cell (p := ⟨b, off + q * 7 + 6, none⟩) (lt_of_cellR (yh 6 _ rfl))).trans (yh 6 _ rfl))
          have cx : ∀ W, Calls Try.prog 19 #[.agg #[.int .u64 (x.lsn : Int), .int .u32 (x.ep : Int), .int .i64 x.kind, .int .u64 (x.ver : Int), .int .u64 (x.dl : Int), .string x.id, .string x.va]] W fun e w' => e = .returned (.agg #[.int .u64 (xc.lsn : Int), .int .u32 (xc.ep : Int), .int .i64 xc.kind, .int .u64 (xc.ver : Int), .int .u64 (xc.dl : Int), .string xc.id, .string xc.va]) ∧ Below W.heap.size W w' := fun W => by
            have h := CutR_val x W
            rw [← xcut] at h
            exact h
          have fx : ∀ W : World, (Instr.field 34 (.agg #[.int .u64 (xc.lsn : Int), .int .u32 (xc.ep : Int), .int .i64 xc.kind, .int .u64 (xc.ver : Int), .int .u64 (xc.dl : Int), .string xc.id, .string xc.va]) 5).run Try.prog W = .ok (.string xc.id) W := fun _ => by kernel_rfl
          have cy : ∀ W, Calls Try.prog 19 #[.agg #[.int .u64 (y.lsn : Int), .int .u32 (y.ep : Int), .int .i64 y.kind, .int .u64 (y.ver : Int), .int .u64 (y.dl : Int), .string y.id, .string y.va]] W fun e w' => e = .returned (.agg #[.int .u64 (yc.lsn : Int), .int .u32 (yc.ep : Int), .int .i64 yc.kind, .int .u64 (yc.ver : Int), .int .u64 (yc.dl : Int), .string yc.id, .string yc.va]) ∧ Below W.heap.size W w' := fun W => by
            have h := CutR_val y W
            rw [← ycut] at h
            exact h
          have fy : ∀ W : World, (Instr.field 34 (.agg #[.int .u64 (yc.lsn : Int), .int .u32 (yc.ep : Int), .int .i64 yc.kind, .int .u64 (yc.ver : Int), .int .u64 (yc.dl : Int), .string yc.id, .string yc.va]) 5).run Try.prog W = .ok (.string yc.id) W := fun _ => by kernel_rfl
          have xv : x.ver = xc.ver := by rw [xcut]; rfl
          have yv : y.ver = yc.ver := by rw [ycut]; rfl
          have HXC := Lib.hid hxc
          have HYC := Lib.hid hyc
          have HXV := Lib.hid xv
          have HYV := Lib.hid yv
          have WK := Lib.hid (wrI k (by omega))
          subst hoa
          clear hxc hyc hx hy xh yh xcut ycut xv yv
          have fin : ∀ W, Calls Try.prog 11 #[] W fun e w' => e = .returned (.bool true) ∧ Below W.heap.size W w' := fun W => fixed_val W
          go_wp2_with fail
          by_cases hid : xc.id = yc.id
          · have HID := Lib.hid hid
            have q1 : (xc.id.toList == yc.id.toList) = true := by rw [hid]; exact beq_self_eq_true _
            have q2 : (xc.id = yc.id) = True := eq_true hid
            clear hid
            by_cases hv : x.ver = y.ver
            · have v1 : ((x.ver : Int) = (y.ver : Int)) = True := eq_true (by omega)
              have v2 : (x.ver = y.ver) = True := eq_true hv
              have v3 : decide (x.ver = y.ver) = true := decide_eq_true hv
              have v4 : (x.ver == y.ver) = true := beq_iff_eq.2 hv
              have v5 : decide ((x.ver : Int) = (y.ver : Int)) = true := decide_eq_true (by omega)
              clear hv
              refine Loose.wp_region_quiet_fast (by kernel_rfl) (by kernel_rfl) ?_
              (try simp only [List.append_eq, List.cons_append, List.nil_append])
              repeat (go_big_quiet_step (fail))
              go_big_quiet_step ((go_at_call 19; exact Calls.regrown_of (cx _)))
              repeat (go_big_quiet_step (fail))
              go_big_quiet_step ((go_at_call 19; exact Calls.regrown_of (cy _)))
              repeat (go_big_quiet_step (fail))
              refine wpQuiet_nil ?_
              intro _ hw'
              obtain ⟨⟨dq, osq⟩, hw''⟩ := hw'
              subst hw''
              have bQ := below_regrown wr dq osq
              have HBQ := Lib.hid (stepR HBI.out bQ)
              clear bQ
              go_wp2_with fail
              refine (fin _).mono ?_; rintro e wz ⟨rfl, hb⟩
              go_wp2_with fail
              go_ret
              exact ⟨rfl, stepR BB2.out (stepR HBQ.out hb)⟩
            · have v1 : ((x.ver : Int) = (y.ver : Int)) = False := eq_false (by omega)
              have v2 : (x.ver = y.ver) = False := eq_false hv
              have v3 : decide (x.ver = y.ver) = false := decide_eq_false hv
              have v4 : (x.ver == y.ver) = false := beq_eq_false_iff_ne.2 hv
              have v5 : decide ((x.ver : Int) = (y.ver : Int)) = false := decide_eq_false (by omega)
              have HV := Lib.hid hv
              clear hv
              refine Loose.wp_region_quiet_fast (by kernel_rfl) (by kernel_rfl) ?_
              (try simp only [List.append_eq, List.cons_append, List.nil_append])
              repeat (go_big_quiet_step (fail))
              go_big_quiet_step ((go_at_call 19; exact Calls.regrown_of (cx _)))
              repeat (go_big_quiet_step (fail))
              go_big_quiet_step ((go_at_call 19; exact Calls.regrown_of (cy _)))
              repeat (go_big_quiet_step (fail))
              refine wpQuiet_nil ?_
              intro _ hw'
              obtain ⟨⟨dq, osq⟩, hw''⟩ := hw'
              subst hw''
              have bQ := below_regrown wr dq osq
              have HBQ := Lib.hid (stepR HBI.out bQ)
              clear bQ
              go_wp2_with fail
              go_roundw
              case rel =>
                refine ⟨k + 1, by omega, by first | rfl | (rw [WK.out]), (fun j hj hq' h1 h2 => ?_), HBQ.out⟩
                rcases (by omega : j < k ∨ j = k) with h | h
                · exact HD2.out j hj hq' h h2
                · subst h
                  rw [← HXC.out, ← HYC.out, ← HXV.out, ← HYV.out] at h2
                  exact HV.out h2.2
              case measure => (try rw [WK.out]); simp only [intOf, Int.toNat_natCast]; omega
          · have q1 : (xc.id.toList == yc.id.toList) = false := beq_eq_false_iff_ne.2 (fun h => by have q := str_ne hid; rw [h] at q; simp at q)
            have q2 : (xc.id = yc.id) = False := eq_false hid
            have HID := Lib.hid hid
            clear hid
            refine Loose.wp_region_quiet_fast (by kernel_rfl) (by kernel_rfl) ?_
            (try simp only [List.append_eq, List.cons_append, List.nil_append])
            repeat (go_big_quiet_step (fail))
            go_big_quiet_step ((go_at_call 19; exact Calls.regrown_of (cx _)))
            repeat (go_big_quiet_step (fail))
            go_big_quiet_step ((go_at_call 19; exact Calls.regrown_of (cy _)))
            repeat (go_big_quiet_step (fail))
            refine wpQuiet_nil ?_
            intro _ hw'
            obtain ⟨⟨dq, osq⟩, hw''⟩ := hw'
            subst hw''
            have bQ := below_regrown wr dq osq
            have HBQ := Lib.hid (stepR HBI.out bQ)
            clear bQ
            go_wp2_with fail
            go_roundw
            case rel =>
              refine ⟨k + 1, by omega, by first | rfl | (rw [WK.out]), (fun j hj hq' h1 h2 => ?_), HBQ.out⟩
              rcases (by omega : j < k ∨ j = k) with h | h
              · exact HD2.out j hj hq' h h2
              · subst h
                rw [← HXC.out, ← HYC.out] at h2
                exact HID.out h2.1
            case measure => (try rw [WK.out]); simp only [intOf, Int.toNat_natCast]; omega
        · have hkq2 : ¬ (k : Int) < (q : Int) := by omega
          have e : k = q := by omega
          subst e
          go_wp2_with fail
          go_roundw
          case rel =>
            refine ⟨k + 1, by omega, by first | rfl | (rw [WQ.out]), (fun j k' hj hk' h1 h2 => ?_), HBI.out⟩
            rcases (by omega : j < k ∨ j = k) with h | h
            · exact HD.out j k' hj hk' h h2
            · subst h; exact HD2.out k' hk' hj h2
          case measure => (try rw [WQ.out]); simp only [intOf, Int.toNat_natCast]; omega
    · have e : M = q := by omega
      have hqM : ¬ (q : Int) < (M : Int) := by omega
      subst e
      have LF := Lib.hid (lif_fil (L := L) (fun j k hj hk h => HD.out j k hj hk (by have := HM.out; omega) h))
      have DXY : Hid (((X ≠ cn ∧ X ≠ cp) ∧ (bn ≠ cn ∧ bn ≠ cp) ∧ bp ≠ cn ∧ bp ≠ cp) ∧ ((Y ≠ bn ∧ Y ≠ bp) ∧ (cn ≠ bn ∧ cn ≠ bp) ∧ cp ≠ bn ∧ cp ≠ bp)) := Lib.hid (by have h1 := IX1.out.lts; have h2 := LBY.out; refine ⟨⟨⟨?_, ?_⟩, ⟨?_, ?_⟩, ?_, ?_⟩, ⟨?_, ?_⟩, ⟨?_, ?_⟩, ?_, ?_⟩ <;> omega)
      have LBC : Hid (w.heap.size ≤ cn ∧ w.heap.size ≤ cp) := Lib.hid (by have h2 := LBY.out; have h3 := BB1.out.size; exact ⟨by omega, by omega⟩)
      clear hlt HD
      go_wp2_with fail
      go_loopw [8] (fun i wr => ∃ q : Nat, q ≤ M ∧ i = .int .i64 q ∧ Ix wr X bn bp q q (fil L q).1 (fil L q).2 ∧ Ix wr Y cn cp q q (lif L q).1 (lif L q).2 ∧ Below w.heap.size w wr) (fun i _ => M - (intOf i).toNat)
      case atStart => exact ⟨0, by omega, rfl, IX2.out.below HB.out, IY2.out.below HB.out, stepR BB2.out HB.out⟩
      case round =>
        obtain ⟨q, hq, rfl, hix, hiy, hbl⟩ := hrel
        have IX := Lib.hid hix
        have IY := Lib.hid hiy
        have HA := Lib.hid hbl
        clear hix hiy hbl
        by_cases hlt : q < M
        · have hqM : (q : Int) < (M : Int) := by omega
          obtain ⟨t, ht⟩ : ∃ t, t = M - 1 - q := ⟨_, rfl⟩
          have hqn : (q : Int) < (n : Int) := by omega
          have htn : (t : Int) < (n : Int) := by omega
          have hql : q < l.length := by have := HN.out; omega
          have htl : t < l.length := by have := HN.out; omega
          have hqL : q < L.length := by have := HM.out; omega
          have htL : t < L.length := by have := HM.out; omega
          have hx1 := AT.out q hql
          have hy1 := AT.out t htl
          obtain ⟨b, off, hoa, hc⟩ := hx1
          obtain ⟨b2, off2, hoa2, hd⟩ := hy1
          rw [hoa] at hoa2; injection hoa2 with e; injection e with e1 e2; subst e1 e2
          have hcx := HLA.out q hql hqL
          have hcy := HLA.out t htl htL
          have hsx := HLS.out _ (List.getElem_mem hqL)
          have hsy := HLS.out _ (List.getElem_mem htL)
          have hst := fil_step hqL
          have hst2 := lif_step (L := L) (q := q) (k := t) (by have := HM.out; omega) htL
          obtain ⟨x, hx⟩ : ∃ r, r = l[q] := ⟨_, rfl⟩
          obtain ⟨y, hy⟩ : ∃ r, r = l[t] := ⟨_, rfl⟩
          rw [← hx] at hc hcx
          rw [← hy] at hd hcy
          obtain ⟨xc, hxc⟩ : ∃ r, r = L[q] := ⟨_, rfl⟩
          obtain ⟨yc, hyc⟩ : ∃ r, r = L[t] := ⟨_, rfl⟩
          rw [← hxc] at hcx hst hsx
          rw [← hyc] at hcy hst2 hsy
          have x0 : wr.cell? ⟨b, off + q * 7, none⟩ = some (.int .u64 (x.lsn : Int)) := (HA.out.cell (p := ⟨b, off + q * 7, none⟩) (lt_of_cellR (hc 0 _ rfl))).trans (hc 0 _ rfl)
          have x1 : wr.cell? ⟨b, off + q * 7 + 1, none⟩ = some (.int .u32 (x.ep : Int)) := (HA.out.cell (p := ⟨b, off + q * 7 + 1, none⟩) (lt_of_cellR (hc 1 _ rfl))).trans (hc 1 _ rfl)
          have x2 : wr.cell? ⟨b, off + q * 7 + 2, none⟩ = some (.int .i64 x.kind) := (HA.out.cell (p := ⟨b, off + q * 7 + 2, none⟩) (lt_of_cellR (hc 2 _ rfl))).trans (hc 2 _ rfl)
          have x3 : wr.cell? ⟨b, off + q * 7 + 3, none⟩ = some (.int .u64 (x.ver : Int)) := (HA.out.cell (p := ⟨b, off + q * 7 + 3, none⟩) (lt_of_cellR (hc 3 _ rfl))).trans (hc 3 _ rfl)
          have x4 : wr.cell? ⟨b, off + q * 7 + 4, none⟩ = some (.int .u64 (x.dl : Int)) := (HA.out.cell (p := ⟨b, off + q * 7 + 4, none⟩) (lt_of_cellR (hc 4 _ rfl))).trans (hc 4 _ rfl)
          have x5 : wr.cell? ⟨b, off + q * 7 + 5, none⟩ = some (.string x.id) := (HA.out.cell (p := ⟨b, off + q * 7 + 5, none⟩) (lt_of_cellR (hc 5 _ rfl))).trans (hc 5 _ rfl)
          have x6 : wr.cell? ⟨b, off + q * 7 + 6, none⟩ = some (.string x.va) := (HA.out.cell (p := ⟨b, off + q * 7 + 6, none⟩) (lt_of_cellR (hc 6 _ rfl))).trans (hc 6 _ rfl)
          have RFX := Lib.hid (CutR_val x wr)
          rw [← hcx] at RFX
          have RFY : Hid (∀ W, Calls Try.prog 19 #[.agg #[.int .u64 (y.lsn : Int), .int .u32 (y.ep : Int), .int .i64 y.kind, .int .u64 (y.ver : Int), .int .u64 (y.dl : Int), .string y.id, .string y.va]] W fun e w' => e = .returned (.agg #[.int .u64 (yc.lsn : Int), .int .u32 (yc.ep : Int), .int .i64 yc.kind, .int .u64 (yc.ver : Int), .int .u64 (yc.dl : Int), .string yc.id, .string yc.va]) ∧ Below W.heap.size W w') := Lib.hid (fun W => by have h := CutR_val y W; rw [← hcy] at h; exact h)
          have HST := Lib.hid hst
          have HST2 := Lib.hid hst2
          have HSX := Lib.hid hsx
          have HSY := Lib.hid hsy
          have HDY := Lib.hid hd
          have HT := Lib.hid ht
          have PQ : Hid (plc q = ((q : Int) / 4, (q : Int) % 4)) := Lib.hid rfl
          have PT : Hid (plc t = (((M : Int) - 1 - (q : Int)) / 4, ((M : Int) - 1 - (q : Int)) % 4)) := Lib.hid (by rw [show (M : Int) - 1 - (q : Int) = (t : Int) from by omega]; rfl)
          have WJ := Lib.hid (wrI q (by omega))
          subst hoa
          clear hc hd hx hy hxc hyc hcx hcy hst hst2 hsx hsy ht
          go_wp2_with fail
          refine RFX.out.mono ?_; rintro e wa ⟨rfl, hb⟩
          have AA := Lib.hid (IAdd_val wa X bn bp q q _ _ xc (plc q) (IX.out.below hb) (by omega) (by omega) (plc_ok (by omega)) (by have := HSX.out; omega) (by have := HSX.out; omega))
          rw [PQ.out] at AA
          have IYA := Lib.hid (IY.out.below hb)
          have HB2 := Lib.hid (stepR HA.out hb)
          clear hb x0 x1 x2 x3 x4 x5 x6
          go_wp2_with fail
          refine AA.out.mono ?_; rintro e wb ⟨rfl, hix, hmq⟩
          have IX3 : Hid (Ix wb X bn bp (q + 1) (q + 1) (fil L (q + 1)).1 (fil L (q + 1)).2) := Lib.hid (by rw [HST.out, PQ.out]; exact hix)
          have IYB := Lib.hid (ix_mq IYA.out hmq DXY.out.2)
          have HB3 := Lib.hid (HB2.out.trans (hmq.below LBX.out.2.1 LBX.out.2.2 HB2.out.size))
          clear hix hmq AA
          have hd := HDY.out
          rw [HT.out] at hd
          have y0 : wb.cell? ⟨b, off + (M - 1 - q) * 7, none⟩ = some (.int .u64 (y.lsn : Int)) := (HB3.out.cell (p := ⟨b, off + (M - 1 - q) * 7, none⟩) (lt_of_cellR (hd 0 _ rfl))).trans (hd 0 _ rfl)
          have y1 : wb.cell? ⟨b, off + (M - 1 - q) * 7 + 1, none⟩ = some (.int .u32 (y.ep : Int)) := (HB3.out.cell (p := ⟨b, off + (M - 1 - q) * 7 + 1, none⟩) (lt_of_cellR (hd 1 _ rfl))).trans (hd 1 _ rfl)
          have y2 : wb.cell? ⟨b, off + (M - 1 - q) * 7 + 2, none⟩ = some (.int .i64 y.kind) := (HB3.out.cell (p := ⟨b, off + (M - 1 - q) * 7 + 2, none⟩) (lt_of_cellR (hd 2 _ rfl))).trans (hd 2 _ rfl)
          have y3 : wb.cell? ⟨b, off + (M - 1 - q) * 7 + 3, none⟩ = some (.int .u64 (y.ver : Int)) := (HB3.out.cell (p := ⟨b, off + (M - 1 - q) * 7 + 3, none⟩) (lt_of_cellR (hd 3 _ rfl))).trans (hd 3 _ rfl)
          have y4 : wb.cell? ⟨b, off + (M - 1 - q) * 7 + 4, none⟩ = some (.int .u64 (y.dl : Int)) := (HB3.out.cell (p := ⟨b, off + (M - 1 - q) * 7 + 4, none⟩) (lt_of_cellR (hd 4 _ rfl))).trans (hd 4 _ rfl)
          have y5 : wb.cell? ⟨b, off + (M - 1 - q) * 7 + 5, none⟩ = some (.string y.id) := (HB3.out.cell (p := ⟨b, off + (M - 1 - q) * 7 + 5, none⟩) (lt_of_cellR (hd 5 _ rfl))).trans (hd 5 _ rfl)
          have y6 : wb.cell? ⟨b, off + (M - 1 - q) * 7 + 6, none⟩ = some (.string y.va) := (HB3.out.cell (p := ⟨b, off + (M - 1 - q) * 7 + 6, none⟩) (lt_of_cellR (hd 6 _ rfl))).trans (hd 6 _ rfl)
          clear hd
          go_wp2_with fail
          refine (RFY.out _).mono ?_; rintro e wc ⟨rfl, hb⟩
          have AA := Lib.hid (IAdd_val wc Y cn cp q q _ _ yc (plc t) (IYB.out.below hb) (by omega) (by omega) (plc_ok (by have := HT.out; omega)) (by have := HSY.out; omega) (by have := HSY.out; omega))
          rw [PT.out] at AA
          have IXC := Lib.hid (IX3.out.below hb)
          have HB4 := Lib.hid (stepR HB3.out hb)
          clear hb y0 y1 y2 y3 y4 y5 y6
          go_wp2_with fail
          refine AA.out.mono ?_; rintro e wd ⟨rfl, hiy, hmq⟩
          have IY5 : Hid (Ix wd Y cn cp (q + 1) (q + 1) (lif L (q + 1)).1 (lif L (q + 1)).2) := Lib.hid (by rw [HST2.out, PT.out]; exact hiy)
          have IX5 := Lib.hid (ix_mq IXC.out hmq DXY.out.1)
          have HB5 := Lib.hid (HB4.out.trans (hmq.below LBC.out.1 LBC.out.2 HB4.out.size))
          clear hiy hmq AA
          go_wp2_with fail
          go_roundw
          case rel => exact ⟨q + 1, by omega, by first | rfl | (rw [WJ.out]), IX5.out, IY5.out, HB5.out⟩
          case measure => (try rw [WJ.out]); simp only [intOf, Int.toNat_natCast]; omega
        · have hqM : ¬ (q : Int) < (M : Int) := by omega
          have e : M = q := by omega
          subst e
          obtain ⟨NX, hNX⟩ : ∃ N, N = (fil L M).1 := ⟨_, rfl⟩
          obtain ⟨QX, hQX⟩ : ∃ N, N = (fil L M).2 := ⟨_, rfl⟩
          obtain ⟨QY, hQY⟩ : ∃ N, N = (lif L M).2 := ⟨_, rfl⟩
          have hNY : (lif L M).1 = NX := by have h := LF.out; rw [← HM.out] at h; rw [h, hNX]
          have IXF : Hid (Ix wr X bn bp 30 30 NX QX) := Lib.hid (by rw [hNX, hQX]; exact IX.out.mono (by omega) (by omega))
          have IYF : Hid (Ix wr Y cn cp 30 30 NX QY) := Lib.hid (by rw [← hNY, hQY]; exact IY.out.mono (by omega) (by omega))
          have NSZ : Hid (∀ i s, NX i = some s → i.size ≤ 140737488351232) := Lib.hid (fun i s h => by
            rw [hNX] at h
            obtain ⟨k, hk, _⟩ := (fil_n (L := L) M (by have := HM.out; omega) i).1 s h
            have := (HLS.out _ (List.getElem_mem hk.2.1)).1
            rw [hk.2.2.2.1] at this
            omega)
          clear hNX hQX hQY hNY IX IY LF hlt
          rename World => wo
          go_wp2_with fail
          go_loopw [10] (fun i wi => ∃ q : Nat, q ≤ M ∧ i = .int .i64 q ∧ Below wo.heap.size wo wi) (fun i _ => M - (intOf i).toNat)
          case atStart => exact ⟨0, by omega, rfl, Below.refl _ _⟩
          case round =>
            obtain ⟨q, hq, rfl, hbl⟩ := hrel
            have HB6 := Lib.hid hbl
            clear hbl
            by_cases hlt : q < M
            · have hqM : (q : Int) < (M : Int) := by omega
              have hqn : (q : Int) < (n : Int) := by omega
              have hql : q < l.length := by have := HN.out; omega
              have hqL : q < L.length := by have := HM.out; omega
              obtain ⟨b, off, hoa, hc⟩ := AT.out q hql
              have hcx := HLA.out q hql hqL
              have hsx := HLS.out _ (List.getElem_mem hqL)
              obtain ⟨x, hx⟩ : ∃ r, r = l[q] := ⟨_, rfl⟩
              rw [← hx] at hc hcx
              obtain ⟨xc, hxc⟩ : ∃ r, r = L[q] := ⟨_, rfl⟩
              rw [← hxc] at hcx hsx
              have x0 : wr.cell? ⟨b, off + q * 7, none⟩ = some (.int .u64 (x.lsn : Int)) := ((stepR HA.out HB6.out).cell (p := ⟨b, off + q * 7, none⟩) (lt_of_cellR (hc 0 _ rfl))).trans (hc 0 _ rfl)
              have x1 : wr.cell? ⟨b, off + q * 7 + 1, none⟩ = some (.int .u32 (x.ep : Int)) := ((stepR HA.out HB6.out).cell (p := ⟨b, off + q * 7 + 1, none⟩) (lt_of_cellR (hc 1 _ rfl))).trans (hc 1 _ rfl)
              have x2 : wr.cell? ⟨b, off + q * 7 + 2, none⟩ = some (.int .i64 x.kind) := ((stepR HA.out HB6.out).cell (p := ⟨b, off + q * 7 + 2, none⟩) (lt_of_cellR (hc 2 _ rfl))).trans (hc 2 _ rfl)
              have x3 : wr.cell? ⟨b, off + q * 7 + 3, none⟩ = some (.int .u64 (x.ver : Int)) := ((stepR HA.out HB6.out).cell (p := ⟨b, off + q * 7 + 3, none⟩) (lt_of_cellR (hc 3 _ rfl))).trans (hc 3 _ rfl)
              have x4 : wr.cell? ⟨b, off + q * 7 + 4, none⟩ = some (.int .u64 (x.dl : Int)) := ((stepR HA.out HB6.out).cell (p := ⟨b, off + q * 7 + 4, none⟩) (lt_of_cellR (hc 4 _ rfl))).trans (hc 4 _ rfl)
              have x5 : wr.cell? ⟨b, off + q * 7 + 5, none⟩ = some (.string x.id) := ((stepR HA.out HB6.out).cell (p := ⟨b, off + q * 7 + 5, none⟩) (lt_of_cellR (hc 5 _ rfl))).trans (hc 5 _ rfl)
              have x6 : wr.cell? ⟨b, off + q * 7 + 6, none⟩ = some (.string x.va) := ((stepR HA.out HB6.out).cell (p := ⟨b, off + q * 7 + 6, none⟩) (lt_of_cellR (hc 6 _ rfl))).trans (hc 6 _ rfl)
              have RFX : Hid (∀ W, Calls Try.prog 19 #[.agg #[.int .u64 (x.lsn : Int), .int .u32 (x.ep : Int), .int .i64 x.kind, .int .u64 (x.ver : Int), .int .u64 (x.dl : Int), .string x.id, .string x.va]] W fun e w' => e = .returned (.agg #[.int .u64 (xc.lsn : Int), .int .u32 (xc.ep : Int), .int .i64 xc.kind, .int .u64 (xc.ver : Int), .int .u64 (xc.dl : Int), .string xc.id, .string xc.va]) ∧ Below W.heap.size W w') := Lib.hid (fun W => by have h := CutR_val x W; rw [← hcx] at h; exact h)
              have HDX := Lib.hid hc
              have WJ := Lib.hid (wrI q (by omega))
              have fx : ∀ W : World, (Instr.field 34 (.agg #[.int .u64 (xc.lsn : Int), .int .u32 (xc.ep : Int), .int .i64 xc.kind, .int .u64 (xc.ver : Int), .int .u64 (xc.dl : Int), .string xc.id, .string xc.va]) 5).run Try.prog W = .ok (.string xc.id) W := fun _ => by kernel_rfl
              have NEW : ∀ W Z zn zp Q, Ix W Z zn zp 30 30 NX Q → Calls Try.prog 16 #[.pointer (some ⟨Z, 0, none⟩), .string xc.id] W fun e w' => e = .returned (.tuple #[.agg ((NX xc.id).getD Ent.zero).row, .bool (NX xc.id).isSome]) ∧ Below W.heap.size W w' := fun W Z zn zp Q h => INewest_val W Z zn zp 30 30 NX Q xc.id h (by omega)
              obtain ⟨en, hen⟩ : ∃ en, en = (NX xc.id).getD Ent.zero := ⟨_, rfl⟩
              obtain ⟨es, hes⟩ : ∃ es, es = (NX xc.id).isSome := ⟨_, rfl⟩
              rw [← hen, ← hes] at NEW
              clear hen hes
              obtain ⟨ea, ed, el, eu, ev, ex⟩ := en
              simp only [Ent.row] at NEW
              have HNEW := Lib.hid NEW
              subst hoa
              clear hc hx hxc hcx hsx NEW
              go_wp2_with fail
              refine (RFX.out _).mono ?_; rintro e wa ⟨rfl, hb⟩
              have HB7 := Lib.hid (stepR HB6.out hb)
              have NV := Lib.hid (HNEW.out wa X bn bp QX (IXF.out.below HB7.out))
              clear hb x0 x1 x2 x3 x4 x5 x6
              go_wp2_with fail
              refine NV.out.mono ?_; rintro e w6 ⟨rfl, hb⟩
              have b7 : Below wo.heap.size wo (w6.alloc (.cells #[.int .u64 (ea : Int), .int .u64 (ed : Int), .bool el, .int .i64 eu, .int .i64 ev, .int .i64 ex] (49 : Nat))) := stepR (stepR HB7.out hb) ((Below.refl _ _).alloc (Nat.le_refl _) _)
              have hc := HDX.out
              have y0 : (w6.alloc (.cells #[.int .u64 (ea : Int), .int .u64 (ed : Int), .bool el, .int .i64 eu, .int .i64 ev, .int .i64 ex] (49 : Nat))).cell? ⟨b, off + q * 7, none⟩ = some (.int .u64 (x.lsn : Int)) := ((stepR HA.out b7).cell (p := ⟨b, off + q * 7, none⟩) (lt_of_cellR (hc 0 _ rfl))).trans (hc 0 _ rfl)
              have y1 : (w6.alloc (.cells #[.int .u64 (ea : Int), .int .u64 (ed : Int), .bool el, .int .i64 eu, .int .i64 ev, .int .i64 ex] (49 : Nat))).cell? ⟨b, off + q * 7 + 1, none⟩ = some (.int .u32 (x.ep : Int)) := ((stepR HA.out b7).cell (p := ⟨b, off + q * 7 + 1, none⟩) (lt_of_cellR (hc 1 _ rfl))).trans (hc 1 _ rfl)
              have y2 : (w6.alloc (.cells #[.int .u64 (ea : Int), .int .u64 (ed : Int), .bool el, .int .i64 eu, .int .i64 ev, .int .i64 ex] (49 : Nat))).cell? ⟨b, off + q * 7 + 2, none⟩ = some (.int .i64 x.kind) := ((stepR HA.out b7).cell (p := ⟨b, off + q * 7 + 2, none⟩) (lt_of_cellR (hc 2 _ rfl))).trans (hc 2 _ rfl)
              have y3 : (w6.alloc (.cells #[.int .u64 (ea : Int), .int .u64 (ed : Int), .bool el, .int .i64 eu, .int .i64 ev, .int .i64 ex] (49 : Nat))).cell? ⟨b, off + q * 7 + 3, none⟩ = some (.int .u64 (x.ver : Int)) := ((stepR HA.out b7).cell (p := ⟨b, off + q * 7 + 3, none⟩) (lt_of_cellR (hc 3 _ rfl))).trans (hc 3 _ rfl)
              have y4 : (w6.alloc (.cells #[.int .u64 (ea : Int), .int .u64 (ed : Int), .bool el, .int .i64 eu, .int .i64 ev, .int .i64 ex] (49 : Nat))).cell? ⟨b, off + q * 7 + 4, none⟩ = some (.int .u64 (x.dl : Int)) := ((stepR HA.out b7).cell (p := ⟨b, off + q * 7 + 4, none⟩) (lt_of_cellR (hc 4 _ rfl))).trans (hc 4 _ rfl)
              have y5 : (w6.alloc (.cells #[.int .u64 (ea : Int), .int .u64 (ed : Int), .bool el, .int .i64 eu, .int .i64 ev, .int .i64 ex] (49 : Nat))).cell? ⟨b, off + q * 7 + 5, none⟩ = some (.string x.id) := ((stepR HA.out b7).cell (p := ⟨b, off + q * 7 + 5, none⟩) (lt_of_cellR (hc 5 _ rfl))).trans (hc 5 _ rfl)
              have y6 : (w6.alloc (.cells #[.int .u64 (ea : Int), .int .u64 (ed : Int), .bool el, .int .i64 eu, .int .i64 ev, .int .i64 ex] (49 : Nat))).cell? ⟨b, off + q * 7 + 6, none⟩ = some (.string x.va) := ((stepR HA.out b7).cell (p := ⟨b, off + q * 7 + 6, none⟩) (lt_of_cellR (hc 6 _ rfl))).trans (hc 6 _ rfl)
              obtain ⟨w7, hw7⟩ : ∃ W, W = (w6.alloc (.cells #[.int .u64 (ea : Int), .int .u64 (ed : Int), .bool el, .int .i64 eu, .int .i64 ev, .int .i64 ex] (49 : Nat))) := ⟨_, rfl⟩
              have ROW7 : Hid (w7.heap[w6.heap.size]? = some (.cells #[.int .u64 (ea : Int), .int .u64 (ed : Int), .bool el, .int .i64 eu, .int .i64 ev, .int .i64 ex] (49 : Nat) (0, 0))) := Lib.hid (by rw [hw7]; exact heap_alloc_new _ _)
              rw [← hw7] at b7
              have HB8 := Lib.hid b7
              have HW7 := Lib.hid hw7
              clear hb b7 hc NV hw7
              go_wp2_with fail
              rw [← HW7.out]
              refine (RFX.out _).mono ?_; rintro e wb ⟨rfl, hb⟩
              have HB9 := Lib.hid (stepR HB8.out hb)
              have ROW8 := Lib.hid ((hb.block _ (lt_of_rowR ROW7.out)).trans ROW7.out)
              have NV := Lib.hid (HNEW.out wb Y cn cp QY (IYF.out.below HB9.out))
              clear hb y0 y1 y2 y3 y4 y5 y6
              go_wp2_with fail
              refine NV.out.mono ?_; rintro e w8 ⟨rfl, hb⟩
              obtain ⟨w9, hw9⟩ : ∃ W, W = (w8.alloc (.cells #[.int .u64 (ea : Int), .int .u64 (ed : Int), .bool el, .int .i64 eu, .int .i64 ev, .int .i64 ex] (49 : Nat))) := ⟨_, rfl⟩
              have b9 : Below w8.heap.size w8 w9 := by rw [hw9]; exact (Below.refl _ _).alloc (Nat.le_refl _) _
              have ROW9 : w9.heap[w8.heap.size]? = some (.cells #[.int .u64 (ea : Int), .int .u64 (ed : Int), .bool el, .int .i64 eu, .int .i64 ev, .int .i64 ex] (49 : Nat) (0, 0)) := by rw [hw9]; exact heap_alloc_new _ _
              have r8 := (hb.block _ (lt_of_rowR ROW8.out)).trans ROW8.out
              have ROW10 := (b9.block _ (lt_of_rowR r8)).trans r8
              have HB10 := Lib.hid (stepR (stepR HB9.out hb) b9)
              have HW9 := Lib.hid hw9
              have H7 := Lib.hid ROW10
              have H9 := Lib.hid ROW9
              have g0 : (w8.alloc (.cells #[.int .u64 (ea : Int), .int .u64 (ed : Int), .bool el, .int .i64 eu, .int .i64 ev, .int .i64 ex] (49 : Nat))).cell? ⟨w6.heap.size, 0, none⟩ = some (.int .u64 (ea : Int)) := by rw [← hw9]; exact (cell_of_row _ _ 0 _ _ _ ROW10).trans rfl
              have k0 : (w8.alloc (.cells #[.int .u64 (ea : Int), .int .u64 (ed : Int), .bool el, .int .i64 eu, .int .i64 ev, .int .i64 ex] (49 : Nat))).cell? ⟨w8.heap.size, 0, none⟩ = some (.int .u64 (ea : Int)) := by rw [← hw9]; exact (cell_of_row _ _ 0 _ _ _ ROW9).trans rfl
              have g1 : (w8.alloc (.cells #[.int .u64 (ea : Int), .int .u64 (ed : Int), .bool el, .int .i64 eu, .int .i64 ev, .int .i64 ex] (49 : Nat))).cell? ⟨w6.heap.size, 1, none⟩ = some (.int .u64 (ed : Int)) := by rw [← hw9]; exact (cell_of_row _ _ 1 _ _ _ ROW10).trans rfl
              have k1 : (w8.alloc (.cells #[.int .u64 (ea : Int), .int .u64 (ed : Int), .bool el, .int .i64 eu, .int .i64 ev, .int .i64 ex] (49 : Nat))).cell? ⟨w8.heap.size, 1, none⟩ = some (.int .u64 (ed : Int)) := by rw [← hw9]; exact (cell_of_row _ _ 1 _ _ _ ROW9).trans rfl
              have g2 : (w8.alloc (.cells #[.int .u64 (ea : Int), .int .u64 (ed : Int), .bool el, .int .i64 eu, .int .i64 ev, .int .i64 ex] (49 : Nat))).cell? ⟨w6.heap.size, 2, none⟩ = some (.bool el) := by rw [← hw9]; exact (cell_of_row _ _ 2 _ _ _ ROW10).trans rfl
              have k2 : (w8.alloc (.cells #[.int .u64 (ea : Int), .int .u64 (ed : Int), .bool el, .int .i64 eu, .int .i64 ev, .int .i64 ex] (49 : Nat))).cell? ⟨w8.heap.size, 2, none⟩ = some (.bool el) := by rw [← hw9]; exact (cell_of_row _ _ 2 _ _ _ ROW9).trans rfl
              have g3 : (w8.alloc (.cells #[.int .u64 (ea : Int), .int .u64 (ed : Int), .bool el, .int .i64 eu, .int .i64 ev, .int .i64 ex] (49 : Nat))).cell? ⟨w6.heap.size, 3, none⟩ = some (.int .i64 eu) := by rw [← hw9]; exact (cell_of_row _ _ 3 _ _ _ ROW10).trans rfl
              have k3 : (w8.alloc (.cells #[.int .u64 (ea : Int), .int .u64 (ed : Int), .bool el, .int .i64 eu, .int .i64 ev, .int .i64 ex] (49 : Nat))).cell? ⟨w8.heap.size, 3, none⟩ = some (.int .i64 eu) := by rw [← hw9]; exact (cell_of_row _ _ 3 _ _ _ ROW9).trans rfl
              have g4 : (w8.alloc (.cells #[.int .u64 (ea : Int), .int .u64 (ed : Int), .bool el, .int .i64 eu, .int .i64 ev, .int .i64 ex] (49 : Nat))).cell? ⟨w6.heap.size, 4, none⟩ = some (.int .i64 ev) := by rw [← hw9]; exact (cell_of_row _ _ 4 _ _ _ ROW10).trans rfl
              have k4 : (w8.alloc (.cells #[.int .u64 (ea : Int), .int .u64 (ed : Int), .bool el, .int .i64 eu, .int .i64 ev, .int .i64 ex] (49 : Nat))).cell? ⟨w8.heap.size, 4, none⟩ = some (.int .i64 ev) := by rw [← hw9]; exact (cell_of_row _ _ 4 _ _ _ ROW9).trans rfl
              have g5 : (w8.alloc (.cells #[.int .u64 (ea : Int), .int .u64 (ed : Int), .bool el, .int .i64 eu, .int .i64 ev, .int .i64 ex] (49 : Nat))).cell? ⟨w6.heap.size, 5, none⟩ = some (.int .i64 ex) := by rw [← hw9]; exact (cell_of_row _ _ 5 _ _ _ ROW10).trans rfl
              have k5 : (w8.alloc (.cells #[.int .u64 (ea : Int), .int .u64 (ed : Int), .bool el, .int .i64 eu, .int .i64 ev, .int .i64 ex] (49 : Nat))).cell? ⟨w8.heap.size, 5, none⟩ = some (.int .i64 ex) := by rw [← hw9]; exact (cell_of_row _ _ 5 _ _ _ ROW9).trans rfl
              clear hb b9 r8 NV hw9 ROW9 ROW10
              go_wp2_with fail
              go_roundw
              case rel => exact ⟨q + 1, by omega, by first | rfl | (rw [WJ.out]), by rw [← HW9.out]; exact HB10.out⟩
              case measure => (try rw [WJ.out]); simp only [intOf, Int.toNat_natCast]; omega
            · have hqM : ¬ (q : Int) < (M : Int) := by omega
              have IXG := Lib.hid (IXF.out.below HB6.out)
              have IYG := Lib.hid (IYF.out.below HB6.out)
              go_wp2_with fail
              refine (ILives_val wr X bn bp 30 30 NX QX IXG.out (by omega) NSZ.out).mono ?_; rintro e wa ⟨⟨ks, rfl, hks, hlen⟩, hb⟩
              have HKS := Lib.hid hks
              have HB7 := Lib.hid (stepR HB6.out hb)
              have LV2 := Lib.hid (ILives_val wa Y cn cp 30 30 NX QY (IYG.out.below hb) (by omega) NSZ.out)
              clear hks hlen hb
              go_wp2_with fail
              refine LV2.out.mono ?_; rintro e wb ⟨⟨ks', rfl, hks, hlen⟩, hb⟩
              have e := keysL_uniq hks HKS.out
              subst e
              have HB8 := Lib.hid (stepR HB7.out hb)
              have HLEN := Lib.hid hlen
              obtain ⟨K, hK⟩ : ∃ K : Nat, K = (ks'.filter (livB NX)).length := ⟨_, rfl⟩
              rw [← hK]
              clear hks hlen hb hK
              go_wp2_with fail
              refine (fixed_val wb).mono ?_; rintro e wz ⟨rfl, hb⟩
              go_wp2_with fail
              go_ret
              exact ⟨rfl, stepR HA.out (stepR HB8.out hb)⟩
theorem IndexOrder_walk (v0 : Value) (w : World) (o0 : Row.Opn Try.prog w 41 v0) :
    Calls Try.prog 7 #[v0] w fun e w' => e = .returned (.bool true) ∧ Below w.heap.size w w' := by
  obtain ⟨l, h1, h2, h3⟩ := open_recs o0
  exact order_main l v0 w h1 h3
end Go.Proofs.Ythpompgcnemanaa.L
