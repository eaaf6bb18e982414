/- The document's newer, Is. -/
import Derived.Test.YtlnhdbbhlcpkbaaRy
import Derived.Test.YtlnhdbbhlcpkbaaRt
import Derived.Test.YtlnhdbbhlcpkbaaRu
import Derived.Test.YtlnhdbbhlcpkbaaGFast
import Derived.BigQuiet
namespace Go.Proofs.Ytlnhdbbhlcpkbaa.G
open Go.RowKit Go.Maps Go.Proofs.Ytlnhdbbhlcpkbaa.WordPlain Go.Proofs.Ytlnhdbbhlcpkbaa.Loose
set_option linter.unusedVariables false
set_option linter.unusedSimpArgs false

set_option maxRecDepth 100000 in
set_option maxHeartbeats 8000000 in
theorem rnewer_core (w : World) (b off n cap i k : Nat) (x y : Rec) (hi : i < n) (hk : k < n) (hn : n ≤ 1000000) (hx : ∀ j u, (encR x)[j]? = some u → w.cell? ⟨b, off + i * 7 + j, none⟩ = some u) (hy : ∀ j u, (encR y)[j]? = some u → w.cell? ⟨b, off + k * 7 + j, none⟩ = some u) :
    Calls Try.prog 35 #[.slice (some ⟨b, off, none⟩) n cap, .int .i64 (i : Int), .int .i64 (k : Int)] w fun e w' => e = .returned (.bool (decide (NewP x y i k))) ∧ Below w.heap.size w w' := by
  obtain ⟨zz, hzz⟩ : ∃ z, z = decide (NewP x y i k) := ⟨_, rfl⟩
  rw [← hzz]
  have HZZ := Lib.hid hzz
  clear hzz
  have x3 := cell_regrown (hx 3 (.int .u64 (x.ver : Int)) rfl)
  have x5 := cell_regrown (hx 5 (.string x.id) rfl)
  have y2 := cell_regrown (hy 2 (.int .i64 y.kind) rfl)
  have y3 := cell_regrown (hy 3 (.int .u64 (y.ver : Int)) rfl)
  have y5 := cell_regrown (hy 5 (.string y.id) rfl)
  clear hx hy
  have hi' : (i : Int) < (n : Int) := by omega
  have hk' : (k : Int) < (n : Int) := by omega
  by_cases hk1 : y.kind = 1
  · have ho : y.ok := Or.inl hk1
    rw [hk1] at y2
    clear hk1
    by_cases hid : y.id = x.id
    · have q0 : (x.id.toList == x.id.toList) = true := beq_self_eq_true _
      by_cases hv : x.ver < y.ver
      · have HZ0 : Hid (zz = true) := Lib.hid (by rw [HZZ.out]; exact decide_eq_true ⟨ho, hid, Or.inl hv⟩)
        have q1 : (x.ver < y.ver) = True := eq_true hv
        rw [hid] at y5
        clear ho hid hv
        go_enter Try.func35, Try.ntmps35
        go_wp2_with fail
        refine Loose.wp_region_quiet_fast (by kernel_rfl) (by kernel_rfl) ?_
        (try simp only [List.append_eq, List.cons_append, List.nil_append])
        repeat (go_big_quiet_step (fail))
        refine wpQuiet_nil ?_
        intro _ hw'
        obtain ⟨⟨dq, osq⟩, hw''⟩ := hw'
        subst hw''
        clear x3 x5 y2 y3 y5
        have bQ := below_regrown w dq osq
        go_wp2_with fail
        go_ret
        exact ⟨by rw [HZ0.out]; rfl, bQ⟩
      · by_cases he : y.ver = x.ver
        · by_cases hik : i < k
          · have HZ0 : Hid (zz = true) := Lib.hid (by rw [HZZ.out]; exact decide_eq_true ⟨ho, hid, Or.inr ⟨he, hik⟩⟩)
            rw [he] at y3
            rw [hid] at y5
            have q1 : (x.ver < x.ver) = False := eq_false (by omega)
            have q2 : ((x.ver : Int) == (x.ver : Int)) = true := beq_self_eq_true _
            have q3 : (i < k) = True := eq_true hik
            clear ho hid hv he hik
            go_enter Try.func35, Try.ntmps35
            go_wp2_with fail
            refine Loose.wp_region_quiet_fast (by kernel_rfl) (by kernel_rfl) ?_
            (try simp only [List.append_eq, List.cons_append, List.nil_append])
            repeat (go_big_quiet_step (fail))
            refine wpQuiet_nil ?_
            intro _ hw'
            obtain ⟨⟨dq, osq⟩, hw''⟩ := hw'
            subst hw''
            clear x3 x5 y2 y3 y5
            have bQ := below_regrown w dq osq
            go_wp2_with fail
            go_ret
            exact ⟨by rw [HZ0.out]; rfl, bQ⟩
          · have HZ0 : Hid (zz = false) := Lib.hid (by rw [HZZ.out]; exact decide_eq_false (fun h => by have := h.2.2; omega))
            rw [he] at y3
            rw [hid] at y5
            have q1 : (x.ver < x.ver) = False := eq_false (by omega)
            have q2 : ((x.ver : Int) == (x.ver : Int)) = true := beq_self_eq_true _
            have q3 : (i < k) = False := eq_false hik
            clear ho hid hv he hik
            go_enter Try.func35, Try.ntmps35
            go_wp2_with fail
            refine Loose.wp_region_quiet_fast (by kernel_rfl) (by kernel_rfl) ?_
            (try simp only [List.append_eq, List.cons_append, List.nil_append])
            repeat (go_big_quiet_step (fail))
            refine wpQuiet_nil ?_
            intro _ hw'
            obtain ⟨⟨dq, osq⟩, hw''⟩ := hw'
            subst hw''
            clear x3 x5 y2 y3 y5
            have bQ := below_regrown w dq osq
            go_wp2_with fail
            go_ret
            exact ⟨by rw [HZ0.out]; rfl, bQ⟩
        · have HZ0 : Hid (zz = false) := Lib.hid (by rw [HZZ.out]; exact decide_eq_false (fun h => by have := h.2.2; omega))
          rw [hid] at y5
          have q1 : (x.ver < y.ver) = False := eq_false hv
          have q2 : ((y.ver : Int) == (x.ver : Int)) = false := beq_eq_false_iff_ne.2 (by omega)
          have q3 : ((y.ver : Int) = (x.ver : Int)) = False := eq_false (by omega)
          have q4 : (y.ver = x.ver) = False := eq_false he
          clear ho hid hv he
          go_enter Try.func35, Try.ntmps35
          go_wp2_with fail
          refine Loose.wp_region_quiet_fast (by kernel_rfl) (by kernel_rfl) ?_
          (try simp only [List.append_eq, List.cons_append, List.nil_append])
          repeat (go_big_quiet_step (fail))
          refine wpQuiet_nil ?_
          intro _ hw'
          obtain ⟨⟨dq, osq⟩, hw''⟩ := hw'
          subst hw''
          clear x3 x5 y2 y3 y5
          have bQ := below_regrown w dq osq
          go_wp2_with fail
          go_ret
          exact ⟨by rw [HZ0.out]; rfl, bQ⟩
    · have HZ0 : Hid (zz = false) := Lib.hid (by rw [HZZ.out]; exact decide_eq_false (fun h => hid h.2.1))
      have q0 := str_ne hid
      have q1 : (y.id.toList == x.id.toList) = false := beq_eq_false_iff_ne.2 (fun h => by rw [h] at q0; simp at q0)
      have q2 : (y.id = x.id) = False := eq_false hid
      clear ho hid
      go_enter Try.func35, Try.ntmps35
      go_wp2_with fail
      refine Loose.wp_region_quiet_fast (by kernel_rfl) (by kernel_rfl) ?_
      (try simp only [List.append_eq, List.cons_append, List.nil_append])
      repeat (go_big_quiet_step (fail))
      refine wpQuiet_nil ?_
      intro _ hw'
      obtain ⟨⟨dq, osq⟩, hw''⟩ := hw'
      subst hw''
      clear x3 x5 y2 y3 y5
      have bQ := below_regrown w dq osq
      go_wp2_with fail
      go_ret
      exact ⟨by rw [HZ0.out]; rfl, bQ⟩
  · by_cases hk2 : y.kind = 2
    · have ho : y.ok := Or.inr hk2
      rw [hk2] at y2
      clear hk1 hk2
      by_cases hid : y.id = x.id
      · have q0 : (x.id.toList == x.id.toList) = true := beq_self_eq_true _
        by_cases hv : x.ver < y.ver
        · have HZ0 : Hid (zz = true) := Lib.hid (by rw [HZZ.out]; exact decide_eq_true ⟨ho, hid, Or.inl hv⟩)
          have q1 : (x.ver < y.ver) = True := eq_true hv
          rw [hid] at y5
          clear ho hid hv
          go_enter Try.func35, Try.ntmps35
          go_wp2_with fail
          refine Loose.wp_region_quiet_fast (by kernel_rfl) (by kernel_rfl) ?_
          (try simp only [List.append_eq, List.cons_append, List.nil_append])
          repeat (go_big_quiet_step (fail))
          refine wpQuiet_nil ?_
          intro _ hw'
          obtain ⟨⟨dq, osq⟩, hw''⟩ := hw'
          subst hw''
          clear x3 x5 y2 y3 y5
          have bQ := below_regrown w dq osq
          go_wp2_with fail
          go_ret
          exact ⟨by rw [HZ0.out]; rfl, bQ⟩
        · by_cases he : y.ver = x.ver
          · by_cases hik : i < k
            · have HZ0 : Hid (zz = true) := Lib.hid (by rw [HZZ.out]; exact decide_eq_true ⟨ho, hid, Or.inr ⟨he, hik⟩⟩)
              rw [he] at y3
              rw [hid] at y5
              have q1 : (x.ver < x.ver) = False := eq_false (by omega)
              have q2 : ((x.ver : Int) == (x.ver : Int)) = true := beq_self_eq_true _
              have q3 : (i < k) = True := eq_true hik
              clear ho hid hv he hik
              go_enter Try.func35, Try.ntmps35
              go_wp2_with fail
              refine Loose.wp_region_quiet_fast (by kernel_rfl) (by kernel_rfl) ?_
              (try simp only [List.append_eq, List.cons_append, List.nil_append])
              repeat (go_big_quiet_step (fail))
              refine wpQuiet_nil ?_
              intro _ hw'
              obtain ⟨⟨dq, osq⟩, hw''⟩ := hw'
              subst hw''
              clear x3 x5 y2 y3 y5
              have bQ := below_regrown w dq osq
              go_wp2_with fail
              go_ret
              exact ⟨by rw [HZ0.out]; rfl, bQ⟩
            · have HZ0 : Hid (zz = false) := Lib.hid (by rw [HZZ.out]; exact decide_eq_false (fun h => by have := h.2.2; omega))
              rw [he] at y3
              rw [hid] at y5
              have q1 : (x.ver < x.ver) = False := eq_false (by omega)
              have q2 : ((x.ver : Int) == (x.ver : Int)) = true := beq_self_eq_true _
              have q3 : (i < k) = False := eq_false hik
              clear ho hid hv he hik
              go_enter Try.func35, Try.ntmps35
              go_wp2_with fail
              refine Loose.wp_region_quiet_fast (by kernel_rfl) (by kernel_rfl) ?_
              (try simp only [List.append_eq, List.cons_append, List.nil_append])
              repeat (go_big_quiet_step (fail))
              refine wpQuiet_nil ?_
              intro _ hw'
              obtain ⟨⟨dq, osq⟩, hw''⟩ := hw'
              subst hw''
              clear x3 x5 y2 y3 y5
              have bQ := below_regrown w dq osq
              go_wp2_with fail
              go_ret
              exact ⟨by rw [HZ0.out]; rfl, bQ⟩
          · have HZ0 : Hid (zz = false) := Lib.hid (by rw [HZZ.out]; exact decide_eq_false (fun h => by have := h.2.2; omega))
            rw [hid] at y5
            have q1 : (x.ver < y.ver) = False := eq_false hv
            have q2 : ((y.ver : Int) == (x.ver : Int)) = false := beq_eq_false_iff_ne.2 (by omega)
            have q3 : ((y.ver : Int) = (x.ver : Int)) = False := eq_false (by omega)
            have q4 : (y.ver = x.ver) = False := eq_false he
            clear ho hid hv he
            go_enter Try.func35, Try.ntmps35
            go_wp2_with fail
            refine Loose.wp_region_quiet_fast (by kernel_rfl) (by kernel_rfl) ?_
            (try simp only [List.append_eq, List.cons_append, List.nil_append])
            repeat (go_big_quiet_step (fail))
            refine wpQuiet_nil ?_
            intro _ hw'
            obtain ⟨⟨dq, osq⟩, hw''⟩ := hw'
            subst hw''
            clear x3 x5 y2 y3 y5
            have bQ := below_regrown w dq osq
            go_wp2_with fail
            go_ret
            exact ⟨by rw [HZ0.out]; rfl, bQ⟩
      · have HZ0 : Hid (zz = false) := Lib.hid (by rw [HZZ.out]; exact decide_eq_false (fun h => hid h.2.1))
        have q0 := str_ne hid
        have q1 : (y.id.toList == x.id.toList) = false := beq_eq_false_iff_ne.2 (fun h => by rw [h] at q0; simp at q0)
        have q2 : (y.id = x.id) = False := eq_false hid
        clear ho hid
        go_enter Try.func35, Try.ntmps35
        go_wp2_with fail
        refine Loose.wp_region_quiet_fast (by kernel_rfl) (by kernel_rfl) ?_
        (try simp only [List.append_eq, List.cons_append, List.nil_append])
        repeat (go_big_quiet_step (fail))
        refine wpQuiet_nil ?_
        intro _ hw'
        obtain ⟨⟨dq, osq⟩, hw''⟩ := hw'
        subst hw''
        clear x3 x5 y2 y3 y5
        have bQ := below_regrown w dq osq
        go_wp2_with fail
        go_ret
        exact ⟨by rw [HZ0.out]; rfl, bQ⟩
    · have HZ0 : Hid (zz = false) := Lib.hid (by rw [HZZ.out]; exact decide_eq_false (fun h => by rcases h.1 with h | h; exact hk1 h; exact hk2 h))
      have g1 : (y.kind == 1) = false := beq_eq_false_iff_ne.2 hk1
      have g2 : (y.kind = 1) = False := eq_false hk1
      have g3 : (y.kind == 2) = false := beq_eq_false_iff_ne.2 hk2
      have g4 : (y.kind = 2) = False := eq_false hk2
      clear hk1 hk2
      go_enter Try.func35, Try.ntmps35
      go_wp2_with fail
      refine Loose.wp_region_quiet_fast (by kernel_rfl) (by kernel_rfl) ?_
      (try simp only [List.append_eq, List.cons_append, List.nil_append])
      repeat (go_big_quiet_step (fail))
      refine wpQuiet_nil ?_
      intro _ hw'
      obtain ⟨⟨dq, osq⟩, hw''⟩ := hw'
      subst hw''
      clear x3 x5 y2 y3 y5
      have bQ := below_regrown w dq osq
      go_wp2_with fail
      go_ret
      exact ⟨by rw [HZ0.out]; rfl, bQ⟩
theorem rnewer_val (w : World) (b off n cap i k : Nat) (l : List Rec) (h : LR 7 encR w (.slice (some ⟨b, off, none⟩) n cap) l) (hn : n = l.length) (hi : i < l.length) (hk : k < l.length) (hl : l.length ≤ 1000000) :
    Calls Try.prog 35 #[.slice (some ⟨b, off, none⟩) n cap, .int .i64 (i : Int), .int .i64 (k : Int)] w fun e w' => e = .returned (.bool (decide (NewP l[i] l[k] i k))) ∧ Below w.heap.size w w' := by
  obtain ⟨oa, cap', h1, _, h3⟩ := h
  injection h1 with e1 e2 e3
  clear e2 e3
  subst e1
  obtain ⟨b1, o1, e, h4⟩ := h3 i hi
  injection e with e
  injection e with e1 e2 e3
  clear e3
  subst e1 e2
  obtain ⟨b2, o2, e, h5⟩ := h3 k hk
  injection e with e
  injection e with e1 e2 e3
  clear e3
  subst e1 e2
  exact rnewer_core w b off n cap i k _ _ (by omega) (by omega) (by omega) h4 h5
set_option maxRecDepth 100000 in
set_option maxHeartbeats 8000000 in
theorem rIs_val (w : World) (b off n cap i : Nat) (l : List Rec) (h : LR 7 encR w (.slice (some ⟨b, off, none⟩) n cap) l) (hn : n = l.length) (hi : i < l.length) (hl : l.length ≤ 1000000) :
    Calls Try.prog 27 #[.slice (some ⟨b, off, none⟩) n cap, .int .i64 (i : Int)] w fun e w' => e = .returned (.bool (decide (IsP l i))) ∧ Below w.heap.size w w' := by
  obtain ⟨zz, hzz⟩ : ∃ z, z = decide (IsP l i) := ⟨_, rfl⟩
  rw [← hzz]
  have HZZ := Lib.hid hzz
  have HH := Lib.hid h
  have HN := Lib.hid hn
  have HI := Lib.hid hi
  have HL := Lib.hid hl
  obtain ⟨oa, cap', h1, _, h3⟩ := h
  injection h1 with e1 e2 e3
  clear e2 e3
  subst e1
  obtain ⟨b1, o1, e, h4⟩ := h3 i hi
  injection e with e
  injection e with e1 e2 e3
  clear e3
  subst e1 e2
  obtain ⟨x, hx⟩ : ∃ x : Rec, x = l[i]'hi := ⟨_, rfl⟩
  simp only [← hx] at h4
  have HX := Lib.hid hx
  have CX := Lib.hid (h4 2 (.int .i64 x.kind) rfl)
  have hi' : (i : Int) < (n : Int) := by omega
  have hin : i < n := by omega
  clear hzz hn hl h3 h4 hx
  go_enter Try.func27, Try.ntmps27
  go_wp2_with fail
  go_loopw [5] (fun iv wr => ∃ q : Nat, q ≤ n ∧ iv = .int .i64 q ∧ NoNew l x i q ∧ Below w.heap.size w wr) (fun iv _ => n - (intOf iv).toNat)
  case atStart => exact ⟨0, by omega, rfl, NoNew.zero l x i, Below.refl _ _⟩
  case round =>
    obtain ⟨q, hq, rfl, hno, hbl⟩ := hrel
    have NO := Lib.hid hno
    have HB := Lib.hid hbl
    clear hno hbl
    by_cases hlt : q < n
    · have hkn : (q : Int) < (n : Int) := by omega
      have hql : q < l.length := by have := HN.out; omega
      have WJ := Lib.hid (wrR q (by have := HL.out; have := HN.out; omega))
      have rv := rnewer_val wr b off n cap i q l (HH.out.below HB.out (Nat.le_refl _)) HN.out HI.out hql HL.out
      rw [← HX.out] at rv
      by_cases hnew : NewP x l[q] i q
      · rw [decide_eq_true hnew] at rv
        have RV := Lib.hid rv
        have HZ0 : Hid (zz = false) := Lib.hid (by rw [HZZ.out]; exact decide_eq_false (fun hp => hp.2.2 q hql hql (by rw [← HX.out]; exact hnew)))
        clear rv hnew hlt
        go_wp2_with fail
        refine RV.out.mono ?_; rintro e w2 ⟨rfl, b2⟩
        have BE := Lib.hid (stepR HB.out b2)
        clear b2 RV
        go_wp2_with fail
        go_ret
        exact ⟨by rw [HZ0.out]; rfl, BE.out⟩
      · rw [decide_eq_false hnew] at rv
        have RV := Lib.hid rv
        have NX := Lib.hid (NO.out.step hql hnew)
        clear rv hnew
        go_wp2_with fail
        refine RV.out.mono ?_; rintro e w2 ⟨rfl, b2⟩
        have BE := Lib.hid (stepR HB.out b2)
        clear b2 RV
        go_wp2_with fail
        go_roundw
        case rel => exact ⟨q + 1, by omega, by first | rfl | (rw [WJ.out]) | go_num, NX.out, BE.out⟩
        case measure => (try rw [WJ.out]); simp only [intOf, Int.toNat_natCast]; omega
    · obtain rfl : q = n := by omega
      have no := NO.out
      rw [HN.out, HX.out] at no
      have HZ0 : Hid (zz = decide x.ok) := Lib.hid (by
        rw [HZZ.out, HX.out]
        by_cases ho : (l[i]'HI.out).ok
        · rw [decide_eq_true ho]; exact decide_eq_true ⟨HI.out, ho, no⟩
        · rw [decide_eq_false ho]; exact decide_eq_false (fun hp => ho hp.2.1))
      have cx : wr.cell? ⟨b, off + i * 7 + 2, none⟩ = some (.int .i64 x.kind) := (HB.out.cell (p := ⟨b, off + i * 7 + 2, none⟩) (lt_of_cellR CX.out)).trans CX.out
      clear no hlt
      by_cases hk1 : x.kind = 1
      · have HZ1 : Hid (zz = true) := Lib.hid (by rw [HZ0.out]; exact decide_eq_true (Or.inl hk1))
        rw [hk1] at cx
        clear hk1
        go_wp2_with fail
        go_ret
        exact ⟨by rw [HZ1.out]; rfl, HB.out⟩
      · by_cases hk2 : x.kind = 2
        · have HZ1 : Hid (zz = true) := Lib.hid (by rw [HZ0.out]; exact decide_eq_true (Or.inr hk2))
          rw [hk2] at cx
          clear hk1 hk2
          go_wp2_with fail
          go_ret
          exact ⟨by rw [HZ1.out]; rfl, HB.out⟩
        · have HZ1 : Hid (zz = false) := Lib.hid (by rw [HZ0.out]; exact decide_eq_false (fun h => by rcases h with h | h; exact hk1 h; exact hk2 h))
          have g1 : (x.kind == 1) = false := beq_eq_false_iff_ne.2 hk1
          have g2 : (x.kind = 1) = False := eq_false hk1
          have g3 : (x.kind == 2) = false := beq_eq_false_iff_ne.2 hk2
          have g4 : (x.kind = 2) = False := eq_false hk2
          clear hk1 hk2
          go_wp2_with fail
          go_ret
          exact ⟨by rw [HZ1.out]; rfl, HB.out⟩
end Go.Proofs.Ytlnhdbbhlcpkbaa.G
