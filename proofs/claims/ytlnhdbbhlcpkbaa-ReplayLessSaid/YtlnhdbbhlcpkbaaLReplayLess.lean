/- ReplayLess: whatever is handed in, the law answers true. No condition. -/
import Derived.Test.YtlnhdbbhlcpkbaaRo
import Derived.Test.YtlnhdbbhlcpkbaaRq
import Derived.Test.YtlnhdbbhlcpkbaaGFast
import Derived.BigQuiet
namespace Go.Proofs.Ytlnhdbbhlcpkbaa.L
open Go.RowKit Go.Maps Go.Proofs.Ytlnhdbbhlcpkbaa.G Go.Proofs.Ytlnhdbbhlcpkbaa.WordPlain Go.Proofs.Ytlnhdbbhlcpkbaa.Loose
set_option linter.unusedVariables false
set_option linter.unusedSimpArgs false

theorem sl_endR (W : World) (g off c : Nat) :
    (Instr.sliceAt 22 (.slice (some ⟨g, off, none⟩) c c) (some (.int .i64 (c : Int))) none none).run Try.prog W = .ok (.slice (some ⟨g, off, none⟩) 0 0) W := by
  have ht := Try.underlying22
  have he : Try.prog.elem 22 = 42 := by simp [Program.elem, ht]
  have ht' : Try.prog.underlying 22 = some (.slice (Try.prog.elem 22)) := by rw [he]; exact ht
  rw [run_sliceAt_slice _ _ _ _ _ _ ht', run_slice_l (P := Try.prog) W 22 (some ⟨g, off, none⟩) c c ht' .i64 (c : Int) (by omega) (by omega), he]
  obtain ⟨ii, z, h1, _, h3, _, _⟩ := rec_info
  simp only [sizeOf, typeInfo]
  simp [h1, h3, sliced, Addr.add]
theorem lr_drop {w : World} {b off n cap c' p : Nat} {L : List Rec} (h : LR 7 encR w (.slice (some ⟨b, off, none⟩) n cap) L) (hc : n - p ≤ c') : LR 7 encR w (.slice (some ⟨b, off + p * 7, none⟩) (n - p) c') (L.drop p) := by
  obtain ⟨oa, cap', h1, h2, h3⟩ := h
  injection h1 with e1 e2 e3
  subst e1 e2 e3
  refine ⟨_, c', by rw [List.length_drop], fun _ => by rw [List.length_drop]; exact hc, fun i hi => ?_⟩
  rw [List.length_drop] at hi
  obtain ⟨b', off', e, hx⟩ := h3 (p + i) (by omega)
  injection e with e
  injection e with e1 e2
  subst e1 e2
  refine ⟨_, _, rfl, fun j u hu => ?_⟩
  rw [List.getElem_drop] at hu
  have := hx j u hu
  rw [show off + p * 7 + i * 7 + j = off + (p + i) * 7 + j by omega]
  exact this
theorem rem_facts (x n : Nat) (hn : 0 < n) : ∃ k : Nat, k < n ∧ Int.tmod (x : Int) (n : Int) = (k : Int) ∧ (x : Int) % (n : Int) = (k : Int) := ⟨x % n, Nat.mod_lt _ hn, (Int.ofNat_tmod x n).symm, rfl⟩
def Fr (N : List Rec) (r : Rec) (q : Nat) (f : Bool) : Prop := f = true ↔ ∃ x ∈ N.take q, x.id = r.id ∧ x.ver = r.ver
theorem Fr.zero (N : List Rec) (r : Rec) : Fr N r 0 false := by unfold Fr; simp
theorem Fr.step {N : List Rec} {r : Rec} {q : Nat} {f : Bool} (h : Fr N r q f) (hq : q < N.length) (g : Bool) (hg : g = true ↔ f = true ∨ (N[q].id = r.id ∧ N[q].ver = r.ver)) : Fr N r (q + 1) g := by
  unfold Fr at *
  rw [hg, h, List.take_succ_eq_append_getElem hq]
  constructor
  · rintro (⟨x, hx, hs⟩ | hs)
    · exact ⟨x, List.mem_append_left _ hx, hs⟩
    · exact ⟨_, List.mem_append_right _ (List.mem_singleton.2 rfl), hs⟩
  · rintro ⟨x, hx, hs⟩
    rcases List.mem_append.1 hx with hx | hx
    · exact Or.inl ⟨x, hx, hs⟩
    · rw [List.mem_singleton.1 hx] at hs; exact Or.inr hs
set_option maxRecDepth 100000 in
set_option maxHeartbeats 8000000 in
theorem less_main (l : List Rec) (v : Value) (at_ now : Nat) (w : World) (hat : at_ < 256) (hv : LR 7 encR w v l) (hkl : ∀ r ∈ l, r.Kind) (hll : l.length ≤ 140737488351232) :
    Calls Try.prog 5 #[v, .int .u8 (at_ : Int), .int .u64 (now : Int)] w fun e w' => e = .returned (.bool true) ∧ Below w.heap.size w w' := by
  have c1 := Cut_val w v l 40 hv hll (by decide)
  have l1 := cutsR_len l 40
  have k1 := cutsR_kind l 40 hkl
  obtain ⟨L, hL⟩ : ∃ x, x = cutsR l 40 := ⟨_, rfl⟩
  rw [← hL] at c1 l1 k1
  have C1 := Lib.hid c1
  have K1 := Lib.hid k1
  obtain ⟨oav, capv, hvv, _⟩ := hv
  subst hvv
  obtain ⟨n, hn⟩ : ∃ n, n = L.length := ⟨_, rfl⟩
  have N40 : n ≤ 40 := by omega
  have HN := Lib.hid hn
  have hLl : L.length ≤ 1000000 := by omega
  obtain ⟨N, hNN⟩ : ∃ x, x = newL L := ⟨_, rfl⟩
  have NLEN := Lib.hid (show N.length ≤ 40 by rw [hNN]; exact Nat.le_trans (newL_len L) (by omega))
  have SLEN := Lib.hid (show (sesL now N).length ≤ 1000000 from Nat.le_trans (sesL_len _ _) (Nat.le_trans NLEN.out (by decide)))
  have NE := Lib.hid (show newL N = N by rw [hNN]; exact newL_newL L)
  have NK := Lib.hid (show ∀ r ∈ N, r.Kind from fun r hr => k1 r (by rw [hNN] at hr; exact (newL_sub L r hr).1))
  have HNN := Lib.hid hNN
  have HLL := Lib.hid hLl
  clear c1 l1 k1 hL hkl hll hn hNN hLl
  go_enter Try.func5, Try.ntmps5
  go_wp2_with fail
  refine C1.out.mono ?_; rintro e w1 ⟨⟨u1, rfl, o1⟩, b1⟩
  have S1 := Lib.hid (SlV.own o1)
  have LR1 := Lib.hid (own_lr (k := 7) (enc := encR) (fun _ => rfl) o1)
  obtain ⟨oa, cap, hf1, hcap, hx⟩ := LR1.out
  subst hf1
  rw [← HN.out] at LR1 ⊢
  have AT := Lib.hid hx
  have HCAP := Lib.hid hcap
  have BW1 := Lib.hid b1
  have sv := Sessions_val w1 _ L now LR1.out HLL.out K1.out
  rw [← HNN.out] at sv
  have SV := Lib.hid sv
  clear o1 b1 hx hcap sv C1
  go_wp2_with fail
  refine SV.out.mono ?_; rintro e w2 ⟨⟨u2, rfl, h2⟩, b2⟩
  have LV := Lib.hid (Lives_val w2 u2 _ h2 SLEN.out)
  have B2 := Lib.hid b2
  clear h2 b2 SV
  go_wp2_with fail
  refine LV.out.mono ?_; rintro e w3 ⟨⟨uw, rfl, h3⟩, b3⟩
  have B3 := Lib.hid (stepR B2.out b3)
  have WANT := Lib.hid (fun W (h : Below w3.heap.size w3 W) => h3.below h (Nat.le_refl _))
  have nv := Newest_val2 L _ w3 HLL.out K1.out (LR1.out.below B3.out (Nat.le_refl _))
  rw [← HNN.out] at nv
  have NV := Lib.hid nv
  clear h3 b3 nv LV
  go_wp2_with fail
  refine NV.out.mono ?_; rintro e w4 ⟨⟨u4, rfl, h4, hs4⟩, b4⟩
  have B34 := Lib.hid (stepR B3.out b4)
  have WANT4 := Lib.hid (fun W (h : Below w4.heap.size w4 W) => WANT.out W (stepR b4 h))
  have B4 := Lib.hid (Below.refl w4.heap.size w4)
  have SN := Lib.hid hs4
  have LN := Lib.hid h4
  obtain ⟨oN, cN, hfN, -, hxN⟩ := h4
  subst hfN
  have ATN := Lib.hid hxN
  obtain ⟨nN, hnN⟩ : ∃ x, x = N.length := ⟨_, rfl⟩
  rw [← hnN] at LN SN ⊢
  have HNL := Lib.hid hnN
  have NN40 : nN ≤ 40 := by have := NLEN.out; omega
  clear b4 hs4 hxN NV hnN
  go_wp2_with fail
  have sv := Sessions_val w4 _ N now (LN.out) (Nat.le_trans NLEN.out (by decide)) (NK.out)
  rw [NE.out] at sv
  have SV := Lib.hid sv
  clear sv
  refine SV.out.mono ?_; rintro e w5 ⟨⟨u5, rfl, h1⟩, bb⟩
  have LV := Lib.hid (Lives_val w5 u5 _ h1 SLEN.out)
  have B5 := Lib.hid (stepR B4.out bb)
  clear h1 bb SV
  go_wp2_with fail
  refine LV.out.mono ?_; rintro e w6 ⟨⟨u6, rfl, h1⟩, bb⟩
  have B6 := Lib.hid (stepR B5.out bb)
  have sm := Same_val w6 uw u6 _ _ (WANT4.out w6 B6.out) h1 SLEN.out
  rw [decide_eq_true rfl] at sm
  have SM := Lib.hid sm
  clear h1 bb sm LV
  go_wp2_with fail
  refine SM.out.mono ?_; rintro e w7 ⟨rfl, bb⟩
  have B7 := Lib.hid (stepR B6.out bb)
  clear bb SM
  go_wp2_with fail
  have R7 := Lib.hid (Refs_val w7 _ N (LN.out.below B7.out (Nat.le_refl _)) (Nat.le_trans NLEN.out (by decide)))
  refine R7.out.mono ?_; rintro e w8 ⟨⟨u8, rfl, h1⟩, bb⟩
  have BX8 := Lib.hid (stepR B7.out bb)
  have H8 := Lib.hid h1
  have nv := Newest_val N _ w8 (Nat.le_trans NLEN.out (by decide)) NK.out (LN.out.below BX8.out (Nat.le_refl _))
  rw [NE.out] at nv
  have NV := Lib.hid nv
  clear h1 bb nv R7
  go_wp2_with fail
  refine NV.out.mono ?_; rintro e w9 ⟨⟨u9, rfl, h1⟩, bb⟩
  have R9 := Lib.hid (Refs_val w9 u9 N h1 (Nat.le_trans NLEN.out (by decide)))
  have H9 := Lib.hid (H8.out.below bb (Nat.le_refl _))
  have BX9 := Lib.hid (stepR BX8.out bb)
  clear h1 bb NV
  go_wp2_with fail
  refine R9.out.mono ?_; rintro e w10 ⟨⟨u10, rfl, h1⟩, bb⟩
  have rc := Recs_val w10 u8 u10 _ _ (H9.out.below bb (Nat.le_refl _)) h1 (Nat.le_trans NLEN.out (by decide))
  rw [decide_eq_true rfl] at rc
  have RC := Lib.hid rc
  have BX10 := Lib.hid (stepR BX9.out bb)
  clear h1 bb rc R9
  go_wp2_with fail
  refine RC.out.mono ?_; rintro e w11 ⟨rfl, bb⟩
  have BX11 := Lib.hid (stepR BX10.out bb)
  clear bb RC
  by_cases hn0 : n = 0
  · have hL0 : L = [] := List.length_eq_zero_iff.1 (by rw [← HN.out]; exact hn0)
    have hN0 : nN = 0 := by rw [HNL.out, HNN.out, hL0]; rfl
    subst hn0 hN0
    have BE := Lib.hid (stepR BW1.out (stepR B34.out BX11.out))
    clear hL0
    go_wp2_with fail
    refine (fixed_val w11).mono ?_; rintro e wz ⟨rfl, bz⟩
    go_wp2_with fail
    go_ret
    exact ⟨rfl, stepR BE.out bz⟩
  · obtain ⟨k, hk, t1, t2⟩ := rem_facts at_ n (by omega)
    have hkl : k < L.length := by have := HN.out; omega
    obtain ⟨r, hr⟩ : ∃ r, r = L[k] := ⟨_, rfl⟩
    have HR := Lib.hid hr
    have n0f : (n = 0) = False := eq_false hn0
    have n0g : ((n : Int) == 0) = false := beq_eq_false_iff_ne.2 (by omega)
    have n0h : ((n : Int) = 0) = False := eq_false (by omega)
    have wat := IntWalk.i64_in (at_ : Int) (by omega)
    clear hr
    go_wp2_with fail
    clear t1 t2 n0f n0g n0h wat
    obtain ⟨b, off, hoa, _⟩ := AT.out k hkl
    subst hoa
    have hkn : k < n := hk
    go_loopw [10, 11] (fun f i wr => ∃ (q : Nat) (fb : Bool), q ≤ nN ∧ i = .int .i64 q ∧ f = .bool fb ∧ Fr N r q fb ∧ Below w11.heap.size w11 wr) (fun _ i _ => nN - (intOf i).toNat)
    case atStart => exact ⟨0, false, by omega, rfl, rfl, Fr.zero N r, Below.refl _ _⟩
    case round =>
      obtain ⟨q, fb, hq, rfl, rfl, hfr, hbl⟩ := hrel
      have HFR := Lib.hid hfr
      have HB := Lib.hid hbl
      clear hfr hbl
      by_cases hlt : q < nN
      · have hqN : q < N.length := by have := HNL.out; omega
        have hki : (q : Int) < (nN : Int) := by omega
        have hkk : (k : Int) < (n : Int) := by omega
        have WJ := Lib.hid (wrR q (by omega))
        cases fb
        rotate_left
        · have FN := Lib.hid (HFR.out.step hqN true (by simp))
          go_wp2_with fail
          refine Loose.wp_region_quiet_fast (by kernel_rfl) (by kernel_rfl) ?_
          (try simp only [List.append_eq, List.cons_append, List.nil_append])
          repeat (go_big_quiet_step (fail))
          refine wpQuiet_nil ?_
          intro _ hw'
          obtain ⟨⟨dq, osq⟩, hw''⟩ := hw'
          subst hw''
          have bQ := below_regrown wr dq osq
          have BE := Lib.hid (stepR HB.out bQ)
          clear bQ
          go_wp2_with fail
          go_roundw
          case rel => exact ⟨q + 1, true, by omega, by first | rfl | (rw [WJ.out]) | go_num, rfl, FN.out, BE.out⟩
          case measure => (try rw [WJ.out]); simp only [intOf, Int.toNat_natCast]; omega
        · obtain ⟨bn, on, hoN, hcn⟩ := ATN.out q hqN
          obtain ⟨bl, ol, hol, hcl⟩ := AT.out k hkl
          injection hol with e1
          injection e1 with e1 e2
          subst e1 e2
          obtain ⟨x, hx⟩ : ∃ x, x = N[q] := ⟨_, rfl⟩
          rw [← hx] at hcn
          rw [← HR.out] at hcl
          have HX := Lib.hid hx
          have hbn := fun j u hu => ((stepR BX11.out HB.out).cell (p := ⟨bn, on + q * 7 + j, none⟩) (lt_of_cellR (hcn j u hu))).trans (hcn j u hu)
          have hbk := fun j u hu => ((stepR B34.out (stepR BX11.out HB.out)).cell (p := ⟨b, off + k * 7 + j, none⟩) (lt_of_cellR (hcl j u hu))).trans (hcl j u hu)
          have k0 := cell_regrown (hbn 3 (.int .u64 (x.ver : Int)) rfl)
          have k1 := cell_regrown (hbn 5 (.string x.id) rfl)
          have k2 := cell_regrown (hbk 3 (.int .u64 (r.ver : Int)) rfl)
          have k3 := cell_regrown (hbk 5 (.string r.id) rfl)
          subst hoN
          clear hcn hcl hbn hbk hx
          by_cases hid : x.id = r.id
          · by_cases hver : x.ver = r.ver
            · have FN := Lib.hid (HFR.out.step hqN true (by rw [← HX.out]; simp [hid, hver]))
              have q0 : (r.id.toList == r.id.toList) = true := beq_self_eq_true _
              have q1 : ((r.ver : Int) == (r.ver : Int)) = true := beq_self_eq_true _
              rw [hid] at k1
              rw [hver] at k0
              clear hid hver
              go_wp2_with fail
              refine Loose.wp_region_quiet_fast (by kernel_rfl) (by kernel_rfl) ?_
              (try simp only [List.append_eq, List.cons_append, List.nil_append])
              repeat (go_big_quiet_step (fail))
              refine wpQuiet_nil ?_
              intro _ hw'
              obtain ⟨⟨dq, osq⟩, hw''⟩ := hw'
              subst hw''
              clear k0 k1 k2 k3 q0 q1
              have bQ := below_regrown wr dq osq
              have BE := Lib.hid (stepR HB.out bQ)
              clear bQ
              go_wp2_with fail
              go_roundw
              case rel => exact ⟨q + 1, true, by omega, by first | rfl | (rw [WJ.out]) | go_num, rfl, FN.out, BE.out⟩
              case measure => (try rw [WJ.out]); simp only [intOf, Int.toNat_natCast]; omega
            · have FN := Lib.hid (HFR.out.step hqN false (by rw [← HX.out]; simp [hver]))
              have q0 : (r.id.toList == r.id.toList) = true := beq_self_eq_true _
              have q1 : ((x.ver : Int) == (r.ver : Int)) = false := beq_eq_false_iff_ne.2 (by omega)
              have q2 : ((x.ver : Int) = (r.ver : Int)) = False := eq_false (by omega)
              have q3 : (x.ver = r.ver) = False := eq_false hver
              rw [hid] at k1
              clear hid hver
              go_wp2_with fail
              refine Loose.wp_region_quiet_fast (by kernel_rfl) (by kernel_rfl) ?_
              (try simp only [List.append_eq, List.cons_append, List.nil_append])
              repeat (go_big_quiet_step (fail))
              refine wpQuiet_nil ?_
              intro _ hw'
              obtain ⟨⟨dq, osq⟩, hw''⟩ := hw'
              subst hw''
              clear k0 k1 k2 k3 q0 q1 q2 q3
              have bQ := below_regrown wr dq osq
              have BE := Lib.hid (stepR HB.out bQ)
              clear bQ
              go_wp2_with fail
              go_roundw
              case rel => exact ⟨q + 1, false, by omega, by first | rfl | (rw [WJ.out]) | go_num, rfl, FN.out, BE.out⟩
              case measure => (try rw [WJ.out]); simp only [intOf, Int.toNat_natCast]; omega
          · have FN := Lib.hid (HFR.out.step hqN false (by rw [← HX.out]; simp [hid]))
            have q0 := str_ne hid
            have q1 : (x.id.toList == r.id.toList) = false := beq_eq_false_iff_ne.2 (fun h => by rw [h] at q0; simp at q0)
            clear hid
            go_wp2_with fail
            refine Loose.wp_region_quiet_fast (by kernel_rfl) (by kernel_rfl) ?_
            (try simp only [List.append_eq, List.cons_append, List.nil_append])
            repeat (go_big_quiet_step (fail))
            refine wpQuiet_nil ?_
            intro _ hw'
            obtain ⟨⟨dq, osq⟩, hw''⟩ := hw'
            subst hw''
            clear k0 k1 k2 k3 q0 q1
            have bQ := below_regrown wr dq osq
            have BE := Lib.hid (stepR HB.out bQ)
            clear bQ
            go_wp2_with fail
            go_roundw
            case rel => exact ⟨q + 1, false, by omega, by first | rfl | (rw [WJ.out]) | go_num, rfl, FN.out, BE.out⟩
            case measure => (try rw [WJ.out]); simp only [intOf, Int.toNat_natCast]; omega
      · obtain rfl : q = nN := by omega
        have hki : ¬ (q : Int) < (q : Int) := by omega
        have hfr := HFR.out
        unfold Fr at hfr
        rw [List.take_of_length_le (by rw [HNL.out]; exact Nat.le_refl _)] at hfr
        have LESS := Lib.hid (show fb = false → newL (L.take k ++ L.drop (k + 1)) = N from fun hf => by
          rw [HNN.out]
          refine newL_less L k hkl (fun x hx hs => ?_)
          rw [← HNN.out] at hx
          rw [← HR.out] at hs
          have := hfr.2 ⟨x, hx, hs⟩
          rw [hf] at this; cases this)
        have B11 := Lib.hid (stepR BX11.out HB.out)
        clear hfr hlt hki
        have hcap2 : n ≤ cap := by have := HCAP.out (by intro e; rw [e] at hkl; exact absurd hkl (Nat.not_lt_zero _)); have := HN.out; omega
        have LRw := Lib.hid (LR1.out.below (stepR B34.out B11.out) (Nat.le_refl _))
        have wk : wrap64 ((k : Int) + 1) = (k : Int) + 1 := IntWalk.wrap64_in _ (by omega)
        have s1 := fun W => sl_toR W b off n cap k (by omega)
        have s2 : ∃ u2, (∀ W, (Instr.sliceAt 22 (.slice (some ⟨b, off, none⟩) n cap) (some (.int .i64 ((k : Int) + 1))) none none).run Try.prog W = .ok u2 W) ∧ (∀ W, LR 7 encR W (.slice (some ⟨b, off, none⟩) n cap) L → LR 7 encR W u2 (L.drop (k + 1))) ∧ SlV u2 ∧ ∃ x y z, u2 = .slice x y z := by
          have ek : ((k : Int) + 1) = ((k + 1 : Nat) : Int) := by omega
          rw [ek]
          by_cases hc : k + 1 < cap
          · exact ⟨_, fun W => sl_fromR W b off n cap (k + 1) (by omega) hc, fun W h => lr_drop h (by omega), Or.inr ⟨_, _, _, rfl⟩, _, _, _, rfl⟩
          · have e1 : k + 1 = cap := by omega
            have e2 : n = cap := by omega
            subst e1
            rw [e2]
            refine ⟨_, fun W => sl_endR W b off (k + 1), fun W _ => ?_, Or.inr ⟨_, _, _, rfl⟩, _, _, _, rfl⟩
            rw [List.drop_of_length_le (by rw [← HN.out]; omega)]
            exact LR.nil _ _ _ _ _
        obtain ⟨u2, s2, s3, s4, x2, y2, z2, hu2⟩ := s2
        subst hu2
        have bA : Below wr.heap.size wr (wr.alloc (.cells #[] 42)) := (Below.refl _ _).alloc (Nat.le_refl _) _
        have tkl : (L.take k).length ≤ 40 := by rw [List.length_take]; have := HN.out; omega
        have drl : (L.drop (k + 1)).length ≤ 40 := by rw [List.length_drop]; have := HN.out; omega
        obtain ⟨va, wa, ra, oA, ba⟩ := own_appR (wr.alloc (.cells #[] 42)) wr.heap.size _ (.slice (some ⟨b, off, none⟩) k cap) [] (L.take k) (own_new wr 42 7 encR wr.heap.size (Nat.le_refl _)) ((LRw.out.below bA (Nat.le_refl _)).first k (by omega)) (Or.inr ⟨_, _, _, rfl⟩) (by simp only [List.length_nil]; omega) (by rw [alloc_sizeR]; omega)
        rw [List.nil_append] at oA
        have bAa := bA.trans ba
        obtain ⟨vb, wb, rb, oB, bb⟩ := own_appR wa wr.heap.size va _ (L.take k) (L.drop (k + 1)) oA (s3 _ (LRw.out.below bAa (Nat.le_refl _))) s4 (by omega) bAa.size
        have bAb := bAa.trans bb
        obtain ⟨LE, hLE⟩ : ∃ x, x = L.take k ++ L.drop (k + 1) := ⟨_, rfl⟩
        rw [← hLE] at oB LESS
        have bC : Below wb.heap.size wb (wb.alloc (.cells #[] 42)) := (Below.refl _ _).alloc (Nat.le_refl _) _
        obtain ⟨vc, wc, rc, oC, bc⟩ := own_appR (wb.alloc (.cells #[] 42)) wb.heap.size _ _ [] L (own_new wb 42 7 encR wb.heap.size (Nat.le_refl _)) (LRw.out.below (stepR bAb bC) (Nat.le_refl _)) (Or.inr ⟨_, _, _, rfl⟩) (by simp only [List.length_nil]; have := HN.out; omega) (by rw [alloc_sizeR]; omega)
        rw [List.nil_append] at oC
        have bCc := bC.trans bc
        obtain ⟨vd, w20, rd, oD, bd⟩ := own_appR wc wb.heap.size vc _ L N oC (LN.out.below (stepR B11.out (stepR bAb bCc)) (Nat.le_refl _)) SN.out (by have := HN.out; have := NLEN.out; omega) bCc.size
        have bCd := bCc.trans bd
        obtain ⟨TW, hTW⟩ : ∃ x, x = L ++ N := ⟨_, rfl⟩
        rw [← hTW] at oD
        have RA := Lib.hid ra
        have RB := Lib.hid rb
        have RC' := Lib.hid rc
        have RD := Lib.hid rd
        have LRL := Lib.hid ((own_lr (k := 7) (enc := encR) (fun _ => rfl) oB).below bCd (Nat.le_refl _))
        have LRT := Lib.hid (own_lr (k := 7) (enc := encR) (fun _ => rfl) oD)
        obtain ⟨aL, cL, hfL, _⟩ := LRL.out
        obtain ⟨aT, cT, hfT, _⟩ := LRT.out
        subst hfL hfT
        have WANT20 := Lib.hid (fun W (h : Below w20.heap.size w20 W) => WANT4.out W (stepR (stepR B11.out (stepR bAb bCd)) h))
        have BASE := Lib.hid (stepR BW1.out (stepR B34.out (stepR B11.out (stepR bAb bCd))))
        have B20 := Lib.hid (Below.refl w20.heap.size w20)
        have LEL := Lib.hid (show LE.length ≤ 1000000 by rw [hLE, List.length_append]; omega)
        have TWL := Lib.hid (show TW.length ≤ 1000000 by rw [hTW, List.length_append]; have := HN.out; have := NLEN.out; omega)
        have LEK := Lib.hid (show ∀ r ∈ LE, r.Kind from fun r hr => K1.out r (by rw [hLE] at hr; rcases List.mem_append.1 hr with h | h; exact List.mem_of_mem_take h; exact List.mem_of_mem_drop h))
        have TWK := Lib.hid (show ∀ r ∈ TW, r.Kind from fun r hr => by rw [hTW] at hr; rcases List.mem_append.1 hr with h | h; exact K1.out r h; exact NK.out r h)
        have TWE := Lib.hid (show newL TW = N by rw [hTW, HNN.out]; exact newL_twice L)
        clear ra rb rc rd oA oB oC oD ba bb bc bd bA bAa bAb bC bCc bCd hLE hTW s3 s4 tkl drl hcap2
        have hkk : (k : Int) < (n : Int) := by omega
        cases fb
        · have LEE := Lib.hid (LESS.out rfl)
          go_wp2_with (at_builtin; first | (refine wpList_append_runR rfl _ _ 22 rfl va (.slice x2 y2 z2) _ wb rfl rfl RB.out ?_) | (refine wpList_append_runR rfl _ _ 22 rfl vc (.slice oN q cN) _ w20 rfl rfl RD.out ?_) | (refine wpList_append_runR rfl _ _ 22 rfl (.slice (some ⟨wr.heap.size, 0, none⟩) 0 0) (.slice (some ⟨b, off, none⟩) k cap) va wa rfl rfl RA.out ?_) | (refine wpList_append_runR rfl _ _ 22 rfl (.slice (some ⟨wb.heap.size, 0, none⟩) 0 0) (.slice (some ⟨b, off, none⟩) n cap) vc wc rfl rfl RC'.out ?_))
          clear s1 s2 wk
          have sv := Sessions_val w20 _ LE now (LRL.out) (LEL.out) (LEK.out)
          rw [LEE.out] at sv
          have SV := Lib.hid sv
          clear sv
          refine SV.out.mono ?_; rintro e w21 ⟨⟨u21, rfl, h1⟩, bb⟩
          have LV := Lib.hid (Lives_val w21 u21 _ h1 SLEN.out)
          have B21 := Lib.hid (stepR B20.out bb)
          clear h1 bb SV
          go_wp2_with fail
          refine LV.out.mono ?_; rintro e w22 ⟨⟨u22, rfl, h1⟩, bb⟩
          have B22 := Lib.hid (stepR B21.out bb)
          have sm := Same_val w22 uw u22 _ _ (WANT20.out w22 B22.out) h1 SLEN.out
          rw [decide_eq_true rfl] at sm
          have SM := Lib.hid sm
          clear h1 bb sm LV
          go_wp2_with fail
          refine SM.out.mono ?_; rintro e w23 ⟨rfl, bb⟩
          have B23 := Lib.hid (stepR B22.out bb)
          clear bb SM
          go_wp2_with fail
          have sv := Sessions_val w23 _ TW now (LRT.out.below B23.out (Nat.le_refl _)) (TWL.out) (TWK.out)
          rw [TWE.out] at sv
          have SV := Lib.hid sv
          clear sv
          refine SV.out.mono ?_; rintro e w24 ⟨⟨u24, rfl, h1⟩, bb⟩
          have LV := Lib.hid (Lives_val w24 u24 _ h1 SLEN.out)
          have B24 := Lib.hid (stepR B23.out bb)
          clear h1 bb SV
          go_wp2_with fail
          refine LV.out.mono ?_; rintro e w25 ⟨⟨u25, rfl, h1⟩, bb⟩
          have B25 := Lib.hid (stepR B24.out bb)
          have sm := Same_val w25 uw u25 _ _ (WANT20.out w25 B25.out) h1 SLEN.out
          rw [decide_eq_true rfl] at sm
          have SM := Lib.hid sm
          clear h1 bb sm LV
          go_wp2_with fail
          refine SM.out.mono ?_; rintro e w26 ⟨rfl, bb⟩
          have B26 := Lib.hid (stepR B25.out bb)
          clear bb SM
          go_wp2_with fail
          refine (fixed_val w26).mono ?_; rintro e wz ⟨rfl, bz⟩
          go_wp2_with fail
          go_ret
          exact ⟨rfl, stepR BASE.out (stepR B26.out bz)⟩
        · go_wp2_with (at_builtin; first | (refine wpList_append_runR rfl _ _ 22 rfl va (.slice x2 y2 z2) _ wb rfl rfl RB.out ?_) | (refine wpList_append_runR rfl _ _ 22 rfl vc (.slice oN q cN) _ w20 rfl rfl RD.out ?_) | (refine wpList_append_runR rfl _ _ 22 rfl (.slice (some ⟨wr.heap.size, 0, none⟩) 0 0) (.slice (some ⟨b, off, none⟩) k cap) va wa rfl rfl RA.out ?_) | (refine wpList_append_runR rfl _ _ 22 rfl (.slice (some ⟨wb.heap.size, 0, none⟩) 0 0) (.slice (some ⟨b, off, none⟩) n cap) vc wc rfl rfl RC'.out ?_))
          clear s1 s2 wk
          have sv := Sessions_val w20 _ TW now (LRT.out) (TWL.out) (TWK.out)
          rw [TWE.out] at sv
          have SV := Lib.hid sv
          clear sv
          refine SV.out.mono ?_; rintro e w21 ⟨⟨u21, rfl, h1⟩, bb⟩
          have LV := Lib.hid (Lives_val w21 u21 _ h1 SLEN.out)
          have B21 := Lib.hid (stepR B20.out bb)
          clear h1 bb SV
          go_wp2_with fail
          refine LV.out.mono ?_; rintro e w22 ⟨⟨u22, rfl, h1⟩, bb⟩
          have B22 := Lib.hid (stepR B21.out bb)
          have sm := Same_val w22 uw u22 _ _ (WANT20.out w22 B22.out) h1 SLEN.out
          rw [decide_eq_true rfl] at sm
          have SM := Lib.hid sm
          clear h1 bb sm LV
          go_wp2_with fail
          refine SM.out.mono ?_; rintro e w23 ⟨rfl, bb⟩
          have B23 := Lib.hid (stepR B22.out bb)
          clear bb SM
          go_wp2_with fail
          refine (fixed_val w23).mono ?_; rintro e wz ⟨rfl, bz⟩
          go_wp2_with fail
          go_ret
          exact ⟨rfl, stepR BASE.out (stepR B23.out bz)⟩
theorem ReplayLess_walk (v0 : Value) (a1 a2 : Int) (w : World) (o0 : Row.Opn Try.prog w 22 v0) (f1 : (Lit.int .u8 a1).wf = true) (f2 : (Lit.int .u64 a2).wf = true) :
    Calls Try.prog 5 #[v0, .int .u8 a1, .int .u64 a2] w fun e w' => e = .returned (.bool true) ∧ Below w.heap.size w w' := by
  obtain ⟨l, h1, h2, h3⟩ := open_recs o0
  obtain ⟨x, rfl, hx⟩ := u8_wf' a1 f1
  obtain ⟨y, rfl, _⟩ := u64_wf a2 f2
  exact less_main l v0 x y w hx h1 h2 h3
end Go.Proofs.Ytlnhdbbhlcpkbaa.L
