/- PlainTicks: whatever the requests and the times, the law answers true. No condition. -/
import Derived.Test.YtmbidannodelfaaPo
namespace Go.Proofs.Ytmbidannodelfaa.L
open Go.RowKit Go.Maps Go.Proofs.Ytmbidannodelfaa.G Go.Proofs.Ytmbidannodelfaa.WordPlain Go.Proofs.Ytmbidannodelfaa.Loose
set_option linter.unusedVariables false
set_option linter.unusedSimpArgs false

theorem PL.other {w w' : World} {p b p' b' n now : Nat} {q : Int} {f : ByteArray → Option Ses} (h : PL w p' b' n now q f) (m : Mp p b w w') (h1 : p' ≠ p) (h2 : p' ≠ b) (h3 : b' ≠ p) (h4 : b' ≠ b) : PL w' p' b' n now q f :=
  h.keep (m.block _ h.lts.1 h1 h2) (m.block _ h.lts.2 h3 h4)
/-- both stores' blocks -/
structure Two (w w' : World) (p b p' b' : Nat) : Prop where
  os : w'.os = w.os
  tape : w'.tape = w.tape
  output : w'.output = w.output
  size : w.heap.size ≤ w'.heap.size
  block : ∀ i, i < w.heap.size → i ≠ p → i ≠ b → i ≠ p' → i ≠ b' → w'.heap[i]? = w.heap[i]?
theorem Two.refl (w : World) (p b p' b' : Nat) : Two w w p b p' b' := ⟨rfl, rfl, rfl, Nat.le_refl _, fun _ _ _ _ _ _ => rfl⟩
theorem Two.left {w w1 w2 : World} {p b p' b' : Nat} (h : Two w w1 p b p' b') (m : Mp p b w1 w2) : Two w w2 p b p' b' :=
  ⟨m.os.trans h.os, m.tape.trans h.tape, m.output.trans h.output, Nat.le_trans h.size m.size, fun i hi a c d e => (m.block i (Nat.lt_of_lt_of_le hi h.size) a c).trans (h.block i hi a c d e)⟩
theorem Two.right {w w1 w2 : World} {p b p' b' : Nat} (h : Two w w1 p b p' b') (m : Mp p' b' w1 w2) : Two w w2 p b p' b' :=
  ⟨m.os.trans h.os, m.tape.trans h.tape, m.output.trans h.output, Nat.le_trans h.size m.size, fun i hi a c d e => (m.block i (Nat.lt_of_lt_of_le hi h.size) d e).trans (h.block i hi a c d e)⟩
theorem Two.below {w w' : World} {p b p' b' B : Nat} (h : Two w w' p b p' b') (hp : B ≤ p) (hb : B ≤ b) (hp' : B ≤ p') (hb' : B ≤ b') (hB : B ≤ w.heap.size) : Below B w w' := ⟨h.os, h.tape, h.output, h.size, fun i hi => h.block i (by omega) (by omega) (by omega) (by omega) (by omega)⟩
theorem two_new (w1 w2 : World) (s : Nat) (hs : w1.heap.size = s + 2) (p b p' b' : Nat) (e1 : p = s + 1) (e2 : b = s) (e3 : p' = w1.heap.size + 1) (e4 : b' = w1.heap.size) : p' ≠ p ∧ p' ≠ b ∧ b' ≠ p ∧ b' ≠ b ∧ p ≠ p' ∧ p ≠ b' ∧ b ≠ p' ∧ b ≠ b' := by omega
theorem tick_plus (a b : Nat) (ha : a < 18446744073709551616) (hb : b < 18446744073709551616) : (IntKind.u64.wrap ((a : Int) + (b : Int)) < (a : Int) ∧ addV (addV 0 a) b = 18446744073709551615) ∨ (¬ IntKind.u64.wrap ((a : Int) + (b : Int)) < (a : Int) ∧ IntKind.u64.wrap ((a : Int) + (b : Int)) = ((a + b : Nat) : Int) ∧ addV (addV 0 a) b = a + b ∧ a + b < 18446744073709551616) := by
  have e : addV 0 a = a := by unfold addV; rw [if_neg (by omega)]; omega
  rw [e]
  by_cases h : 18446744073709551616 ≤ a + b
  · refine Or.inl ⟨?_, by unfold addV; rw [if_pos h]⟩
    simp only [IntKind.wrap, IntKind.bits, IntKind.signed]
    simp
    omega
  · have hw : IntKind.u64.wrap ((a : Int) + (b : Int)) = ((a + b : Nat) : Int) := by
      rw [show (a : Int) + (b : Int) = ((a + b : Nat) : Int) from by omega]
      exact IntWalk.u64_in _ (by omega)
    refine Or.inr ⟨by rw [hw]; omega, hw, by unfold addV; rw [if_neg h], by omega⟩
theorem addV_zero (a : Nat) (ha : a < 18446744073709551616) : addV 0 a = a := by unfold addV; rw [if_neg (by omega)]; omega
/-- the lists at three times -/
theorem three_times {w : World} {p b n now : Nat} {q : Int} {f : ByteArray → Option Ses} (h : PL w p b n now q f) (t1 t2 : Nat) (h1 : now ≤ t1) (h2 : t1 ≤ t2) : ∃ L0 L1 L2, IsSes now f L0 ∧ IsSes t1 f L1 ∧ IsSes t2 f L2 ∧ L1.length ≤ L0.length ∧ L2.length ≤ L1.length ∧ L0.length ≤ n := by
  obtain ⟨ks, hk, hkl⟩ := h.map.keys
  have hid := fun k s (hs : f k = some s) => (h.ids k s hs).1
  exact ⟨_, _, _, livL_is hk hid, livL_is hk hid, livL_is hk hid, livL_le _ _ _ _ h1, livL_le _ _ _ _ h2, Nat.le_trans (List.length_filterMap_le _ _) hkl⟩

set_option maxRecDepth 100000 in
set_option maxHeartbeats 8000000 in
theorem ticks_main (l : List Og) (v : Value) (ta tb : Nat) (w : World) (hv : LR 5 encO w v l) (hk0 : ∀ o ∈ l, o.Kind) (hta : ta < 18446744073709551616) (htb : tb < 18446744073709551616) :
    Calls Try.prog 8 #[v, .int .u64 (ta : Nat), .int .u64 (tb : Nat)] w fun e w' => e = .returned (.bool true) ∧ Below w.heap.size w w' := by
  obtain ⟨oa, cap, rfl, _, hx⟩ := hv
  obtain ⟨n, hn⟩ : ∃ n, n = l.length := ⟨_, rfl⟩
  rw [← hn]
  have HX := Lib.hid hx
  have HN := Lib.hid hn
  have HK := Lib.hid hk0
  have HTA := Lib.hid hta
  have HTB := Lib.hid htb
  have HNEW := Lib.hid (New_val w 0 1000 (by omega))
  have HNEW2 := Lib.hid (fun W => New_val W 0 1000 (by omega))
  clear hx hn hk0 hta htb
  go_enter Try.func8, Try.ntmps8
  go_wp2_with fail
  refine (HNEW.out).mono ?_; rintro e w0 ⟨rfl, pl, bl, hz⟩
  have hnew2 := HNEW2.out w0
  obtain ⟨p, hp⟩ : ∃ p, p = w.heap.size + 1 := ⟨_, rfl⟩
  obtain ⟨b, hb⟩ : ∃ b, b = w.heap.size := ⟨_, rfl⟩
  rw [← hp, ← hb] at pl
  rw [← hp]
  have PL0 := Lib.hid pl
  have BL0 := Lib.hid bl
  have HNEW3 := Lib.hid hnew2
  have HP := Lib.hid hp
  have HB := Lib.hid hb
  have HZ := Lib.hid hz
  clear hp hb pl bl hz hnew2 HNEW HNEW2
  go_wp2_with fail
  refine (HNEW3.out).mono ?_; rintro e w1 ⟨rfl, pl', bl', hz'⟩
  obtain ⟨p', hp'⟩ : ∃ p, p = w0.heap.size + 1 := ⟨_, rfl⟩
  obtain ⟨b', hb'⟩ : ∃ b, b = w0.heap.size := ⟨_, rfl⟩
  rw [← hp', ← hb'] at pl'
  rw [← hp']
  have DIS := Lib.hid (two_new w0 w1 w.heap.size HZ.out p b p' b' HP.out HB.out hp' hb')
  have PLa := Lib.hid (PL0.out.below bl')
  have PLb := Lib.hid pl'
  have BL1 := Lib.hid (stepR BL0.out bl')
  have LOW : Hid (w.heap.size ≤ p ∧ w.heap.size ≤ b ∧ w.heap.size ≤ p' ∧ w.heap.size ≤ b') := Lib.hid (by have := HP.out; have := HB.out; have := HZ.out; omega)
  clear pl' bl' hz' hp' hb' HNEW3 PL0 BL0 HZ
  go_wp2_with fail
  go_loopw [9] (fun j wr => ∃ (s m : Nat) (f : ByteArray → Option Ses), s ≤ n ∧ s ≤ 20 ∧ j = .int .i64 s ∧ m = s ∧ PL wr p b m 0 1000 f ∧ PL wr p' b' m 0 1000 f ∧ Two w1 wr p b p' b') (fun j _ => n - (intOf j).toNat)
  case atStart => exact ⟨0, 0, _, by omega, by omega, rfl, rfl, PLa.out, PLb.out, Two.refl _ _ _ _ _⟩
  case round =>
    obtain ⟨s, m, f, hs, hs30, rfl, hm, hpl, hpl', htw⟩ := hrel
    have PLr := Lib.hid hpl
    have PLs := Lib.hid hpl'
    have TW := Lib.hid htw
    have HM := Lib.hid hm
    clear hpl hpl' htw hm
    by_cases hlt : s < n
    · have hkn : (s : Int) < (n : Int) := by omega
      by_cases hlt30 : s < 20
      · have hk30 : (s : Int) < 20 := by omega
        have hsl : s < l.length := by have := HN.out; omega
        obtain ⟨bb, off, hoa, hcell⟩ := HX.out s hsl
        have hok := HK.out l[s] (List.getElem_mem hsl)
        obtain ⟨o, ho⟩ : ∃ o, o = l[s] := ⟨_, rfl⟩
        rw [← ho] at hcell hok
        obtain ⟨⟨ok, oi, ov, ox⟩, ot⟩ := o
        have BW : ∀ V, Two w1 V p b p' b' → Below w.heap.size w V := fun V hV => BL1.out.trans (hV.below LOW.out.1 LOW.out.2.1 LOW.out.2.2.1 LOW.out.2.2.2 BL1.out.size)
        have hl0 := lt_of_cellR (hcell 0 _ rfl)
        have cells : ∀ V, Two w1 V p b p' b' → ∀ j u, (encO ⟨⟨ok, oi, ov, ox⟩, ot⟩)[j]? = some u → V.cell? ⟨bb, off + s * 5 + j, none⟩ = some u := fun V hV j u hu => ((BW V hV).cell (p := ⟨bb, off + s * 5 + j, none⟩) hl0).trans (hcell j u hu)
        have CELLS := Lib.hid cells
        have d0 := cells wr TW.out 0 _ rfl
        have d1 := cells wr TW.out 1 _ rfl
        have d2 := cells wr TW.out 2 _ rfl
        have d3 := cells wr TW.out 3 _ rfl
        rw [Nat.add_zero] at d0
        have hcutr := fun W => CutR_val ⟨ok, oi, ov, ox⟩ W
        have hrc := hok.r.cut
        obtain ⟨cc, hcc⟩ : ∃ c, c = Rq.cut ⟨ok, oi, ov, ox⟩ := ⟨_, rfl⟩
        rw [← hcc] at hcutr hrc
        have HRC := Lib.hid hrc
        have hdo := fun (W : World) (pp bb : Nat) (L : List Ses) (hW : PL W pp bb m 0 1000 f) (hL : IsSes 0 f L) => Do_val W pp bb m 0 1000 f cc L hW hrc (by have := HM.out; omega) hL
        obtain ⟨dk, di, dv, dx⟩ := cc
        simp only [Rq.row] at hcutr hdo
        have HDO := Lib.hid hdo
        have HCR := Lib.hid hcutr
        subst hoa
        clear cells hcell ho hok BW hcutr hrc hcc hl0 hdo
        go_wp2_with fail
        refine (HCR.out _).mono ?_; rintro e w2 ⟨rfl, b2⟩
        have pl2 := PLr.out.below b2
        have pl2' := PLs.out.below b2
        have tw2 := TW.out.left (Mp.of_below (p := p) (b := b) b2)
        obtain ⟨L, hL, hll⟩ := pl2.ses
        have dd := HDO.out w2 p b L pl2 hL
        obtain ⟨f', hf'⟩ : ∃ g, g = doF 0 1000 f L.length ⟨dk, di, dv, dx⟩ := ⟨_, rfl⟩
        obtain ⟨y, hy⟩ : ∃ y, y = doR 0 1000 f L.length ⟨dk, di, dv, dx⟩ := ⟨_, rfl⟩
        rw [← hf', ← hy] at dd
        obtain ⟨ye, yv, yd⟩ := y
        simp only [Rp.row] at dd
        have DD := Lib.hid dd
        have PL2' := Lib.hid pl2'
        have TW2 := Lib.hid tw2
        have HL := Lib.hid hL
        have HF' := Lib.hid hf'
        clear dd pl2 pl2' tw2 b2 hL hll hf' hy d0 d1 d2 d3
        go_wp2_with fail
        refine (DD.out).mono ?_; rintro e w3 ⟨rfl, pl3, mp3⟩
        have tw3 := TW2.out.left mp3
        have pl3' := PL.other PL2'.out mp3 DIS.out.1 DIS.out.2.1 DIS.out.2.2.1 DIS.out.2.2.2.1
        have d0 := CELLS.out w3 tw3 0 _ rfl
        have d1 := CELLS.out w3 tw3 1 _ rfl
        have d2 := CELLS.out w3 tw3 2 _ rfl
        have d3 := CELLS.out w3 tw3 3 _ rfl
        rw [Nat.add_zero] at d0
        have PL3 := Lib.hid pl3
        have PL3' := Lib.hid pl3'
        have TW3 := Lib.hid tw3
        clear pl3 pl3' mp3 tw3 DD TW2 PL2'
        go_wp2_with fail
        refine (HCR.out _).mono ?_; rintro e w4 ⟨rfl, b4⟩
        have pl4 := PL3.out.below b4
        have pl4' := PL3'.out.below b4
        have tw4 := TW3.out.left (Mp.of_below (p := p) (b := b) b4)
        have dd := HDO.out w4 p' b' L pl4' HL.out
        rw [← HF'.out] at dd
        obtain ⟨y, hy⟩ : ∃ y, y = doR 0 1000 f L.length ⟨dk, di, dv, dx⟩ := ⟨_, rfl⟩
        rw [← hy] at dd
        obtain ⟨ye, yv, yd⟩ := y
        simp only [Rp.row] at dd
        have DD := Lib.hid dd
        have PL4 := Lib.hid pl4
        have TW4 := Lib.hid tw4
        clear dd pl4 pl4' tw4 b4 hy d0 d1 d2 d3
        go_wp2_with fail
        refine (DD.out).mono ?_; rintro e w5 ⟨rfl, pl5', mp5⟩
        have pl5 := PL.other PL4.out mp5 DIS.out.2.2.2.2.1 DIS.out.2.2.2.2.2.1 DIS.out.2.2.2.2.2.2.1 DIS.out.2.2.2.2.2.2.2
        have PL5 := Lib.hid pl5
        have PL5' := Lib.hid pl5'
        have TW5 := Lib.hid (TW4.out.right mp5)
        clear pl5 pl5' mp5
        go_wp2_with fail
        go_roundw
        case rel => exact ⟨s + 1, m + 1, _, by omega, by omega, by go_num, by rw [HM.out], PL5.out, PL5'.out, TW5.out⟩
        case measure => simp [intOf]; omega
      · have hk30 : ¬ (s : Int) < 20 := by omega
        obtain ⟨L0, L1, L2, h0, h1, h2, hl1, hl2, hln⟩ := three_times PLr.out (addV 0 ta) (addV (addV 0 ta) tb) (Nat.zero_le _) (addV_ge _ _ (addV_lt _ _ (by decide) HTA.out))
        have hm6 : m ≤ 1000000 := by have := HM.out; omega
        have t1 := Tick_val wr p b m 0 1000 f ta (addV 0 ta) L0 L1 PLr.out hm6 HTA.out rfl h0 h1 hl1 (by omega)
        have t2 := fun W (hW : PL W p b m (addV 0 ta) 1000 f) => Tick_val W p b m (addV 0 ta) 1000 f tb (addV (addV 0 ta) tb) L1 L2 hW hm6 HTB.out rfl h1 h2 hl2 (by omega)
        obtain ⟨d1, hd1⟩ : ∃ d, d = L0.length - L1.length := ⟨_, rfl⟩
        obtain ⟨d2, hd2⟩ : ∃ d, d = L1.length - L2.length := ⟨_, rfl⟩
        obtain ⟨ds, hds⟩ : ∃ d, d = L0.length - L2.length := ⟨_, rfl⟩
        have hsum : IntKind.i64.wrap ((d1 : Int) + (d2 : Int)) = (ds : Int) ∧ wrap64 ((d1 : Int) + (d2 : Int)) = (ds : Int) := by
          rw [show (d1 : Int) + (d2 : Int) = ((d1 + d2 : Nat) : Int) from by omega, show ds = d1 + d2 from by omega]
          have := wrap64_of_small (d1 + d2) (by omega)
          exact ⟨this.2, this.1⟩
        obtain ⟨sm1, sm2⟩ := hsum
        rw [← hd1] at t1
        rw [← hd2] at t2
        have T1 := Lib.hid t1
        have T2 := Lib.hid t2
        have H2 := Lib.hid h2
        have H0 := Lib.hid h0
        have HDS := Lib.hid hds
        have HLL := Lib.hid (show L2.length ≤ L0.length ∧ L0.length ≤ 1000000 by omega)
        have HM6 := Lib.hid hm6
        clear t1 t2 h0 h1 h2 hl1 hl2 hln hd1 hd2 hds hm6
        go_wp2_with fail
        refine (T1.out).mono ?_; rintro e w2 ⟨rfl, pl2, mp2⟩
        have pl2' := PL.other PLs.out mp2 DIS.out.1 DIS.out.2.1 DIS.out.2.2.1 DIS.out.2.2.2.1
        have PL2 := Lib.hid pl2
        have PL2' := Lib.hid pl2'
        have TW2 := Lib.hid (TW.out.left mp2)
        clear pl2 pl2' mp2
        go_wp2_with fail
        refine (T2.out _ PL2.out).mono ?_; rintro e w3 ⟨rfl, pl3, mp3⟩
        have pl3' := PL.other PL2'.out mp3 DIS.out.1 DIS.out.2.1 DIS.out.2.2.1 DIS.out.2.2.2.1
        have PL3 := Lib.hid pl3
        have PL3' := Lib.hid pl3'
        have TW3 := Lib.hid (TW2.out.left mp3)
        clear pl3 pl3' mp3 PL2 PL2' TW2 T1 T2
        rcases tick_plus ta tb HTA.out HTB.out with ⟨q1, q2⟩ | ⟨q1, q2, q3, q4⟩
        · rw [q2] at PL3 H2
          clear q2
          have et : addV 0 18446744073709551615 = 18446744073709551615 := addV_zero 18446744073709551615 (by decide)
          have t3 := Tick_val w3 p' b' m 0 1000 f 18446744073709551615 18446744073709551615 L0 L2 PL3'.out HM6.out (by decide) et.symm H0.out H2.out HLL.out.1 HLL.out.2
          rw [← HDS.out] at t3
          have T3 := Lib.hid t3
          clear t3 et
          go_wp2_with fail
          refine (T3.out).mono ?_; rintro e w4 ⟨rfl, pl4', mp4⟩
          have pl4 := PL.other PL3.out mp4 DIS.out.2.2.2.2.1 DIS.out.2.2.2.2.2.1 DIS.out.2.2.2.2.2.2.1 DIS.out.2.2.2.2.2.2.2
          have PL4 := Lib.hid pl4
          have PL4' := Lib.hid pl4'
          have TW4 := Lib.hid (TW3.out.right mp4)
          clear pl4 pl4' mp4
          go_wp2_with fail
          refine (Now_val w4 p b m 18446744073709551615 1000 f PL4.out).mono ?_; rintro e w5 ⟨rfl, b5⟩
          have B5 := Lib.hid b5
          clear b5
          go_wp2_with fail
          refine (Now_val w5 p' b' m 18446744073709551615 1000 f (PL4'.out.below B5.out)).mono ?_; rintro e w6 ⟨rfl, b6⟩
          have B6 := Lib.hid (stepR B5.out b6)
          clear b6
          go_wp2_with fail
          refine (sess_is w6 p b m 18446744073709551615 1000 f L2 (PL4.out.below B6.out) HM6.out H2.out).mono ?_; rintro e w7 ⟨⟨u7, rfl, l7⟩, b7⟩
          have hli := Lives_val w7 u7 L2 l7 (by have := HLL.out; omega)
          obtain ⟨o7, c7, hu7⟩ := l7.form
          subst hu7
          have HLI := Lib.hid hli
          have B7 := Lib.hid (stepR B6.out b7)
          clear hli l7 b7
          go_wp2_with fail
          refine (HLI.out).mono ?_; rintro e w8 ⟨⟨u8, rfl, l8⟩, b8⟩
          have B8 := Lib.hid (stepR B7.out b8)
          have L8 := Lib.hid l8
          obtain ⟨o8, c8, hu8⟩ := l8.form
          subst hu8
          clear l8 b8
          go_wp2_with fail
          refine (sess_is w8 p' b' m 18446744073709551615 1000 f L2 (PL4'.out.below B8.out) HM6.out H2.out).mono ?_; rintro e w9 ⟨⟨u9, rfl, l9⟩, b9⟩
          have hli := Lives_val w9 u9 L2 l9 (by have := HLL.out; omega)
          obtain ⟨o9, c9, hu9⟩ := l9.form
          subst hu9
          have HLI2 := Lib.hid hli
          have B9 := Lib.hid (stepR B8.out b9)
          have L9 := Lib.hid (L8.out.below b9 (Nat.le_refl _))
          clear hli l9 b9
          go_wp2_with fail
          refine (HLI2.out).mono ?_; rintro e w10 ⟨⟨u10, rfl, l10⟩, b10⟩
          have hsm := Same_val w10 _ u10 L2 L2 (L9.out.below b10 (Nat.le_refl _)) l10 (by have := HLL.out; omega)
          rw [decide_eq_true rfl] at hsm
          obtain ⟨o10, c10, hu10⟩ := l10.form
          subst hu10
          have HSM := Lib.hid hsm
          have B10 := Lib.hid (stepR B9.out b10)
          clear hsm l10 b10
          go_wp2_with fail
          refine (HSM.out).mono ?_; rintro e w11 ⟨rfl, b11⟩
          have B11 := Lib.hid (stepR B10.out b11)
          clear b11
          have dd := Do_bad w11 p b m 18446744073709551615 1000 f ⟨0, ⟨#[]⟩, ⟨#[]⟩, 0⟩ 1 (PL4.out.below B11.out) (rq_kind _ (by decide +kernel)) (by decide +kernel) (by decide)
          simp only [Rq.row, Rp.row, Rp.bad] at dd
          have DD := Lib.hid dd
          have fld : ∀ W : World, (Instr.field 41 (.agg #[.int .i64 1, .string ⟨#[]⟩, .int .u64 0]) 0).run Try.prog W = .ok (.int .i64 1) W := fun _ => by kernel_rfl
          clear dd
          go_wp2_with fail
          refine (DD.out).mono ?_; rintro e w12 ⟨rfl, pl12, mp12⟩
          have TW12 := Lib.hid ((TW4.out.left (Mp.of_below (p := p) (b := b) B11.out)).left mp12)
          clear pl12 mp12
          go_wp2_with fail
          refine (fixed_val _).mono ?_; rintro e w13 ⟨rfl, b13⟩
          go_wp2_with fail
          go_ret
          have BF := BL1.out.trans ((TW12.out.left (Mp.of_below (p := p) (b := b) b13)).below LOW.out.1 LOW.out.2.1 LOW.out.2.2.1 LOW.out.2.2.2 BL1.out.size)
          exact ⟨rfl, BF⟩
        · rw [q3] at PL3 H2
          obtain ⟨tt, htt⟩ : ∃ t, t = ta + tb := ⟨_, rfl⟩
          rw [← htt] at q2 q4 H2 PL3
          have Q4 := Lib.hid q4
          rw [q2] at q1
          clear q3 htt q4
          have et : addV 0 tt = tt := addV_zero tt Q4.out
          have t3 := Tick_val w3 p' b' m 0 1000 f tt tt L0 L2 PL3'.out HM6.out Q4.out et.symm H0.out H2.out HLL.out.1 HLL.out.2
          rw [← HDS.out] at t3
          have T3 := Lib.hid t3
          clear t3 et
          go_wp2_with fail
          refine (T3.out).mono ?_; rintro e w4 ⟨rfl, pl4', mp4⟩
          have pl4 := PL.other PL3.out mp4 DIS.out.2.2.2.2.1 DIS.out.2.2.2.2.2.1 DIS.out.2.2.2.2.2.2.1 DIS.out.2.2.2.2.2.2.2
          have PL4 := Lib.hid pl4
          have PL4' := Lib.hid pl4'
          have TW4 := Lib.hid (TW3.out.right mp4)
          clear pl4 pl4' mp4
          go_wp2_with fail
          refine (Now_val w4 p b m tt 1000 f PL4.out).mono ?_; rintro e w5 ⟨rfl, b5⟩
          have B5 := Lib.hid b5
          clear b5
          go_wp2_with fail
          refine (Now_val w5 p' b' m tt 1000 f (PL4'.out.below B5.out)).mono ?_; rintro e w6 ⟨rfl, b6⟩
          have B6 := Lib.hid (stepR B5.out b6)
          clear b6
          go_wp2_with fail
          refine (sess_is w6 p b m tt 1000 f L2 (PL4.out.below B6.out) HM6.out H2.out).mono ?_; rintro e w7 ⟨⟨u7, rfl, l7⟩, b7⟩
          have hli := Lives_val w7 u7 L2 l7 (by have := HLL.out; omega)
          obtain ⟨o7, c7, hu7⟩ := l7.form
          subst hu7
          have HLI := Lib.hid hli
          have B7 := Lib.hid (stepR B6.out b7)
          clear hli l7 b7
          go_wp2_with fail
          refine (HLI.out).mono ?_; rintro e w8 ⟨⟨u8, rfl, l8⟩, b8⟩
          have B8 := Lib.hid (stepR B7.out b8)
          have L8 := Lib.hid l8
          obtain ⟨o8, c8, hu8⟩ := l8.form
          subst hu8
          clear l8 b8
          go_wp2_with fail
          refine (sess_is w8 p' b' m tt 1000 f L2 (PL4'.out.below B8.out) HM6.out H2.out).mono ?_; rintro e w9 ⟨⟨u9, rfl, l9⟩, b9⟩
          have hli := Lives_val w9 u9 L2 l9 (by have := HLL.out; omega)
          obtain ⟨o9, c9, hu9⟩ := l9.form
          subst hu9
          have HLI2 := Lib.hid hli
          have B9 := Lib.hid (stepR B8.out b9)
          have L9 := Lib.hid (L8.out.below b9 (Nat.le_refl _))
          clear hli l9 b9
          go_wp2_with fail
          refine (HLI2.out).mono ?_; rintro e w10 ⟨⟨u10, rfl, l10⟩, b10⟩
          have hsm := Same_val w10 _ u10 L2 L2 (L9.out.below b10 (Nat.le_refl _)) l10 (by have := HLL.out; omega)
          rw [decide_eq_true rfl] at hsm
          obtain ⟨o10, c10, hu10⟩ := l10.form
          subst hu10
          have HSM := Lib.hid hsm
          have B10 := Lib.hid (stepR B9.out b10)
          clear hsm l10 b10
          go_wp2_with fail
          refine (HSM.out).mono ?_; rintro e w11 ⟨rfl, b11⟩
          have B11 := Lib.hid (stepR B10.out b11)
          clear b11
          have dd := Do_bad w11 p b m tt 1000 f ⟨0, ⟨#[]⟩, ⟨#[]⟩, 0⟩ 1 (PL4.out.below B11.out) (rq_kind _ (by decide +kernel)) (by decide +kernel) (by decide)
          simp only [Rq.row, Rp.row, Rp.bad] at dd
          have DD := Lib.hid dd
          have fld : ∀ W : World, (Instr.field 41 (.agg #[.int .i64 1, .string ⟨#[]⟩, .int .u64 0]) 0).run Try.prog W = .ok (.int .i64 1) W := fun _ => by kernel_rfl
          clear dd
          go_wp2_with fail
          refine (DD.out).mono ?_; rintro e w12 ⟨rfl, pl12, mp12⟩
          have TW12 := Lib.hid ((TW4.out.left (Mp.of_below (p := p) (b := b) B11.out)).left mp12)
          clear pl12 mp12
          go_wp2_with fail
          refine (fixed_val _).mono ?_; rintro e w13 ⟨rfl, b13⟩
          go_wp2_with fail
          go_ret
          have BF := BL1.out.trans ((TW12.out.left (Mp.of_below (p := p) (b := b) b13)).below LOW.out.1 LOW.out.2.1 LOW.out.2.2.1 LOW.out.2.2.2 BL1.out.size)
          exact ⟨rfl, BF⟩
    · have hkn : ¬ (s : Int) < (n : Int) := by omega
      obtain ⟨L0, L1, L2, h0, h1, h2, hl1, hl2, hln⟩ := three_times PLr.out (addV 0 ta) (addV (addV 0 ta) tb) (Nat.zero_le _) (addV_ge _ _ (addV_lt _ _ (by decide) HTA.out))
      have hm6 : m ≤ 1000000 := by have := HM.out; omega
      have t1 := Tick_val wr p b m 0 1000 f ta (addV 0 ta) L0 L1 PLr.out hm6 HTA.out rfl h0 h1 hl1 (by omega)
      have t2 := fun W (hW : PL W p b m (addV 0 ta) 1000 f) => Tick_val W p b m (addV 0 ta) 1000 f tb (addV (addV 0 ta) tb) L1 L2 hW hm6 HTB.out rfl h1 h2 hl2 (by omega)
      obtain ⟨d1, hd1⟩ : ∃ d, d = L0.length - L1.length := ⟨_, rfl⟩
      obtain ⟨d2, hd2⟩ : ∃ d, d = L1.length - L2.length := ⟨_, rfl⟩
      obtain ⟨ds, hds⟩ : ∃ d, d = L0.length - L2.length := ⟨_, rfl⟩
      have hsum : IntKind.i64.wrap ((d1 : Int) + (d2 : Int)) = (ds : Int) ∧ wrap64 ((d1 : Int) + (d2 : Int)) = (ds : Int) := by
        rw [show (d1 : Int) + (d2 : Int) = ((d1 + d2 : Nat) : Int) from by omega, show ds = d1 + d2 from by omega]
        have := wrap64_of_small (d1 + d2) (by omega)
        exact ⟨this.2, this.1⟩
      obtain ⟨sm1, sm2⟩ := hsum
      rw [← hd1] at t1
      rw [← hd2] at t2
      have T1 := Lib.hid t1
      have T2 := Lib.hid t2
      have H2 := Lib.hid h2
      have H0 := Lib.hid h0
      have HDS := Lib.hid hds
      have HLL := Lib.hid (show L2.length ≤ L0.length ∧ L0.length ≤ 1000000 by omega)
      have HM6 := Lib.hid hm6
      clear t1 t2 h0 h1 h2 hl1 hl2 hln hd1 hd2 hds hm6
      go_wp2_with fail
      refine (T1.out).mono ?_; rintro e w2 ⟨rfl, pl2, mp2⟩
      have pl2' := PL.other PLs.out mp2 DIS.out.1 DIS.out.2.1 DIS.out.2.2.1 DIS.out.2.2.2.1
      have PL2 := Lib.hid pl2
      have PL2' := Lib.hid pl2'
      have TW2 := Lib.hid (TW.out.left mp2)
      clear pl2 pl2' mp2
      go_wp2_with fail
      refine (T2.out _ PL2.out).mono ?_; rintro e w3 ⟨rfl, pl3, mp3⟩
      have pl3' := PL.other PL2'.out mp3 DIS.out.1 DIS.out.2.1 DIS.out.2.2.1 DIS.out.2.2.2.1
      have PL3 := Lib.hid pl3
      have PL3' := Lib.hid pl3'
      have TW3 := Lib.hid (TW2.out.left mp3)
      clear pl3 pl3' mp3 PL2 PL2' TW2 T1 T2
      rcases tick_plus ta tb HTA.out HTB.out with ⟨q1, q2⟩ | ⟨q1, q2, q3, q4⟩
      · rw [q2] at PL3 H2
        clear q2
        have et : addV 0 18446744073709551615 = 18446744073709551615 := addV_zero 18446744073709551615 (by decide)
        have t3 := Tick_val w3 p' b' m 0 1000 f 18446744073709551615 18446744073709551615 L0 L2 PL3'.out HM6.out (by decide) et.symm H0.out H2.out HLL.out.1 HLL.out.2
        rw [← HDS.out] at t3
        have T3 := Lib.hid t3
        clear t3 et
        go_wp2_with fail
        refine (T3.out).mono ?_; rintro e w4 ⟨rfl, pl4', mp4⟩
        have pl4 := PL.other PL3.out mp4 DIS.out.2.2.2.2.1 DIS.out.2.2.2.2.2.1 DIS.out.2.2.2.2.2.2.1 DIS.out.2.2.2.2.2.2.2
        have PL4 := Lib.hid pl4
        have PL4' := Lib.hid pl4'
        have TW4 := Lib.hid (TW3.out.right mp4)
        clear pl4 pl4' mp4
        go_wp2_with fail
        refine (Now_val w4 p b m 18446744073709551615 1000 f PL4.out).mono ?_; rintro e w5 ⟨rfl, b5⟩
        have B5 := Lib.hid b5
        clear b5
        go_wp2_with fail
        refine (Now_val w5 p' b' m 18446744073709551615 1000 f (PL4'.out.below B5.out)).mono ?_; rintro e w6 ⟨rfl, b6⟩
        have B6 := Lib.hid (stepR B5.out b6)
        clear b6
        go_wp2_with fail
        refine (sess_is w6 p b m 18446744073709551615 1000 f L2 (PL4.out.below B6.out) HM6.out H2.out).mono ?_; rintro e w7 ⟨⟨u7, rfl, l7⟩, b7⟩
        have hli := Lives_val w7 u7 L2 l7 (by have := HLL.out; omega)
        obtain ⟨o7, c7, hu7⟩ := l7.form
        subst hu7
        have HLI := Lib.hid hli
        have B7 := Lib.hid (stepR B6.out b7)
        clear hli l7 b7
        go_wp2_with fail
        refine (HLI.out).mono ?_; rintro e w8 ⟨⟨u8, rfl, l8⟩, b8⟩
        have B8 := Lib.hid (stepR B7.out b8)
        have L8 := Lib.hid l8
        obtain ⟨o8, c8, hu8⟩ := l8.form
        subst hu8
        clear l8 b8
        go_wp2_with fail
        refine (sess_is w8 p' b' m 18446744073709551615 1000 f L2 (PL4'.out.below B8.out) HM6.out H2.out).mono ?_; rintro e w9 ⟨⟨u9, rfl, l9⟩, b9⟩
        have hli := Lives_val w9 u9 L2 l9 (by have := HLL.out; omega)
        obtain ⟨o9, c9, hu9⟩ := l9.form
        subst hu9
        have HLI2 := Lib.hid hli
        have B9 := Lib.hid (stepR B8.out b9)
        have L9 := Lib.hid (L8.out.below b9 (Nat.le_refl _))
        clear hli l9 b9
        go_wp2_with fail
        refine (HLI2.out).mono ?_; rintro e w10 ⟨⟨u10, rfl, l10⟩, b10⟩
        have hsm := Same_val w10 _ u10 L2 L2 (L9.out.below b10 (Nat.le_refl _)) l10 (by have := HLL.out; omega)
        rw [decide_eq_true rfl] at hsm
        obtain ⟨o10, c10, hu10⟩ := l10.form
        subst hu10
        have HSM := Lib.hid hsm
        have B10 := Lib.hid (stepR B9.out b10)
        clear hsm l10 b10
        go_wp2_with fail
        refine (HSM.out).mono ?_; rintro e w11 ⟨rfl, b11⟩
        have B11 := Lib.hid (stepR B10.out b11)
        clear b11
        have dd := Do_bad w11 p b m 18446744073709551615 1000 f ⟨0, ⟨#[]⟩, ⟨#[]⟩, 0⟩ 1 (PL4.out.below B11.out) (rq_kind _ (by decide +kernel)) (by decide +kernel) (by decide)
        simp only [Rq.row, Rp.row, Rp.bad] at dd
        have DD := Lib.hid dd
        have fld : ∀ W : World, (Instr.field 41 (.agg #[.int .i64 1, .string ⟨#[]⟩, .int .u64 0]) 0).run Try.prog W = .ok (.int .i64 1) W := fun _ => by kernel_rfl
        clear dd
        go_wp2_with fail
        refine (DD.out).mono ?_; rintro e w12 ⟨rfl, pl12, mp12⟩
        have TW12 := Lib.hid ((TW4.out.left (Mp.of_below (p := p) (b := b) B11.out)).left mp12)
        clear pl12 mp12
        go_wp2_with fail
        refine (fixed_val _).mono ?_; rintro e w13 ⟨rfl, b13⟩
        go_wp2_with fail
        go_ret
        have BF := BL1.out.trans ((TW12.out.left (Mp.of_below (p := p) (b := b) b13)).below LOW.out.1 LOW.out.2.1 LOW.out.2.2.1 LOW.out.2.2.2 BL1.out.size)
        exact ⟨rfl, BF⟩
      · rw [q3] at PL3 H2
        obtain ⟨tt, htt⟩ : ∃ t, t = ta + tb := ⟨_, rfl⟩
        rw [← htt] at q2 q4 H2 PL3
        have Q4 := Lib.hid q4
        rw [q2] at q1
        clear q3 htt q4
        have et : addV 0 tt = tt := addV_zero tt Q4.out
        have t3 := Tick_val w3 p' b' m 0 1000 f tt tt L0 L2 PL3'.out HM6.out Q4.out et.symm H0.out H2.out HLL.out.1 HLL.out.2
        rw [← HDS.out] at t3
        have T3 := Lib.hid t3
        clear t3 et
        go_wp2_with fail
        refine (T3.out).mono ?_; rintro e w4 ⟨rfl, pl4', mp4⟩
        have pl4 := PL.other PL3.out mp4 DIS.out.2.2.2.2.1 DIS.out.2.2.2.2.2.1 DIS.out.2.2.2.2.2.2.1 DIS.out.2.2.2.2.2.2.2
        have PL4 := Lib.hid pl4
        have PL4' := Lib.hid pl4'
        have TW4 := Lib.hid (TW3.out.right mp4)
        clear pl4 pl4' mp4
        go_wp2_with fail
        refine (Now_val w4 p b m tt 1000 f PL4.out).mono ?_; rintro e w5 ⟨rfl, b5⟩
        have B5 := Lib.hid b5
        clear b5
        go_wp2_with fail
        refine (Now_val w5 p' b' m tt 1000 f (PL4'.out.below B5.out)).mono ?_; rintro e w6 ⟨rfl, b6⟩
        have B6 := Lib.hid (stepR B5.out b6)
        clear b6
        go_wp2_with fail
        refine (sess_is w6 p b m tt 1000 f L2 (PL4.out.below B6.out) HM6.out H2.out).mono ?_; rintro e w7 ⟨⟨u7, rfl, l7⟩, b7⟩
        have hli := Lives_val w7 u7 L2 l7 (by have := HLL.out; omega)
        obtain ⟨o7, c7, hu7⟩ := l7.form
        subst hu7
        have HLI := Lib.hid hli
        have B7 := Lib.hid (stepR B6.out b7)
        clear hli l7 b7
        go_wp2_with fail
        refine (HLI.out).mono ?_; rintro e w8 ⟨⟨u8, rfl, l8⟩, b8⟩
        have B8 := Lib.hid (stepR B7.out b8)
        have L8 := Lib.hid l8
        obtain ⟨o8, c8, hu8⟩ := l8.form
        subst hu8
        clear l8 b8
        go_wp2_with fail
        refine (sess_is w8 p' b' m tt 1000 f L2 (PL4'.out.below B8.out) HM6.out H2.out).mono ?_; rintro e w9 ⟨⟨u9, rfl, l9⟩, b9⟩
        have hli := Lives_val w9 u9 L2 l9 (by have := HLL.out; omega)
        obtain ⟨o9, c9, hu9⟩ := l9.form
        subst hu9
        have HLI2 := Lib.hid hli
        have B9 := Lib.hid (stepR B8.out b9)
        have L9 := Lib.hid (L8.out.below b9 (Nat.le_refl _))
        clear hli l9 b9
        go_wp2_with fail
        refine (HLI2.out).mono ?_; rintro e w10 ⟨⟨u10, rfl, l10⟩, b10⟩
        have hsm := Same_val w10 _ u10 L2 L2 (L9.out.below b10 (Nat.le_refl _)) l10 (by have := HLL.out; omega)
        rw [decide_eq_true rfl] at hsm
        obtain ⟨o10, c10, hu10⟩ := l10.form
        subst hu10
        have HSM := Lib.hid hsm
        have B10 := Lib.hid (stepR B9.out b10)
        clear hsm l10 b10
        go_wp2_with fail
        refine (HSM.out).mono ?_; rintro e w11 ⟨rfl, b11⟩
        have B11 := Lib.hid (stepR B10.out b11)
        clear b11
        have dd := Do_bad w11 p b m tt 1000 f ⟨0, ⟨#[]⟩, ⟨#[]⟩, 0⟩ 1 (PL4.out.below B11.out) (rq_kind _ (by decide +kernel)) (by decide +kernel) (by decide)
        simp only [Rq.row, Rp.row, Rp.bad] at dd
        have DD := Lib.hid dd
        have fld : ∀ W : World, (Instr.field 41 (.agg #[.int .i64 1, .string ⟨#[]⟩, .int .u64 0]) 0).run Try.prog W = .ok (.int .i64 1) W := fun _ => by kernel_rfl
        clear dd
        go_wp2_with fail
        refine (DD.out).mono ?_; rintro e w12 ⟨rfl, pl12, mp12⟩
        have TW12 := Lib.hid ((TW4.out.left (Mp.of_below (p := p) (b := b) B11.out)).left mp12)
        clear pl12 mp12
        go_wp2_with fail
        refine (fixed_val _).mono ?_; rintro e w13 ⟨rfl, b13⟩
        go_wp2_with fail
        go_ret
        have BF := BL1.out.trans ((TW12.out.left (Mp.of_below (p := p) (b := b) b13)).below LOW.out.1 LOW.out.2.1 LOW.out.2.2.1 LOW.out.2.2.2 BL1.out.size)
        exact ⟨rfl, BF⟩
theorem PlainTicks_walk (v0 : Value) (a1 a2 : Int) (w : World) (o0 : Row.Opn Try.prog w 23 v0) (w1 : (Lit.int .u64 a1).wf = true) (w2 : (Lit.int .u64 a2).wf = true) :
    Calls Try.prog 8 #[v0, .int .u64 a1, .int .u64 a2] w fun e w' => e = .returned (.bool true) ∧ Below w.heap.size w w' := by
  obtain ⟨x, rfl, hx⟩ := u64_wf _ w1
  obtain ⟨y, rfl, hy⟩ := u64_wf _ w2
  obtain ⟨l, h1, h2, _⟩ := open_ops o0
  exact ticks_main l v0 x y w h1 h2 hx hy
end Go.Proofs.Ytmbidannodelfaa.L
