/- PlainErrors: whatever the quota, the requests and times, and the last request, the law answers true. No condition. -/
import Derived.Test.YtmbidannodelfaaPo
import Derived.Test.YtmbidannodelfaaGFast
import Derived.BigQuiet
namespace Go.Proofs.Ytmbidannodelfaa.L
open Go.RowKit Go.Maps Go.Proofs.Ytmbidannodelfaa.G Go.Proofs.Ytmbidannodelfaa.WordPlain Go.Proofs.Ytmbidannodelfaa.Loose
set_option linter.unusedVariables false
set_option linter.unusedSimpArgs false

theorem below_srow {B : Nat} {w W : World} (h : Below B w W) {g : Nat} (hg : B ≤ g) (cs : Array Value) : Below B w (W.setRow g cs) :=
  ⟨h.os, h.tape, h.output, by rw [setRow_size]; exact h.size, fun i hi => (setRow_other _ _ _ _ (by omega)).trans (h.block i hi)⟩
/-- Tick, whatever lives -/
theorem Tick_any (w : World) (p b n now : Nat) (q : Int) (f : ByteArray → Option Ses) (t : Nat) (h : PL w p b n now q f) (hn : n ≤ 1000000) (ht : t < 18446744073709551616) :
    Calls Try.prog 11 #[.pointer (some ⟨p, 0, none⟩), .int .u64 (t : Nat)] w fun e w' => (∃ d, e = .returned (.int .i64 d)) ∧ PL w' p b n (addV now t) q f ∧ Mp p b w w' := by
  obtain ⟨L, hL, hl⟩ := h.ses
  have hu := addV_lt now t h.nlt ht
  have h2 : PL w p b n now q f := h
  obtain ⟨ks, hk, hkl⟩ := h.map.keys
  have hM := livL_is (now := addV now t) hk (fun k s hs => (h.ids k s hs).1)
  have hle : (livL (addV now t) f ks).length ≤ L.length := by
    have e : L = livL now f ks := hL.uniq (livL_is hk (fun k s hs => (h.ids k s hs).1)) (fun s => Iff.rfl)
    rw [e]
    exact livL_le now (addV now t) f ks (addV_ge now t h.nlt)
  exact (Tick_val w p b n now q f t (addV now t) L _ h hn ht rfl hL hM hle (by omega)).mono fun e w' ⟨h1, h2, h3⟩ => ⟨⟨_, h1⟩, h2, h3⟩

theorem lr_mp {w w' : World} {p b n now : Nat} {q : Int} {f : ByteArray → Option Ses} {v : Value} {L : List Ses} (h : LR 3 Go.Proofs.Ytmbidannodelfaa.G.encS w v L) (pl : PL w p b n now q f) (m : Mp p b w w') : LR 3 Go.Proofs.Ytmbidannodelfaa.G.encS w' v L := by
  obtain ⟨oa, cap, h1, h2, h3⟩ := h
  refine ⟨oa, cap, h1, h2, fun i hi => ?_⟩
  obtain ⟨b', off, h4, h5⟩ := h3 i hi
  have h50 := h5 0 (.string L[i].id) rfl
  have hp : b' ≠ p := by
    rintro rfl
    have hr := cell_of_row w b' (off + i * 3 + 0) _ _ (0, 0) pl.cells
    rw [hr] at h50
    match hj : off + i * 3 + 0 with
    | 0 => rw [hj] at h50; cases h50
    | 1 => rw [hj] at h50; cases h50
    | 2 => rw [hj] at h50; cases h50
    | j + 3 => rw [hj] at h50; simp at h50
  have hb : b' ≠ b := by
    rintro rfl
    obtain ⟨D, ⟨es, c, hm, _⟩, _⟩ := pl.map
    simp [World.cell?, hm] at h50
  refine ⟨b', off, h4, fun j u hu => ?_⟩
  have h6 := h5 j u hu
  have hblk := m.block b' (lt_of_cellR h6) hp hb
  rw [World.cell?_of_block (a := ⟨b', off + i * 3 + j, none⟩) hblk]
  exact h6
theorem err_cases (now : Nat) (q : Int) (f : ByteArray → Option Ses) (c : Nat) (r : Rq) :
    (validE r ≠ 0 ∧ doR now q f c r = Rp.bad (validE r) ∧ doF now q f c r = f) ∨
    (validE r = 0 ∧ ∃ e : Int, (e = 3 ∨ e = 4 ∨ e = 7) ∧ doR now q f c r = Rp.bad e ∧ doF now q f c r = f) ∨
    (validE r = 0 ∧ (doR now q f c r).err = 0 ∧ chg r.kind = true) ∨
    (validE r = 0 ∧ (doR now q f c r).err = 0 ∧ chg r.kind = false ∧ doF now q f c r = f) := by
  unfold doR doF
  by_cases hv : validE r ≠ 0
  · rw [if_pos hv, if_pos hv]; exact Or.inl ⟨hv, rfl, rfl⟩
  have hv0 : validE r = 0 := Decidable.not_not.1 hv
  obtain ⟨k0, k5⟩ := valid_kind r hv0
  rw [if_neg hv, if_neg hv]
  by_cases hk : r.kind = 0
  · rw [if_pos hk, if_pos hk]
    by_cases hl : liv now f r.id = true
    · rw [if_pos hl, if_pos hl]; exact Or.inr (Or.inl ⟨hv0, 4, by simp, rfl, rfl⟩)
    · rw [if_neg hl, if_neg hl]
      by_cases hq : q ≤ (c : Int)
      · rw [if_pos hq, if_pos hq]; exact Or.inr (Or.inl ⟨hv0, 7, by simp, rfl, rfl⟩)
      · rw [if_neg hq, if_neg hq]; exact Or.inr (Or.inr (Or.inl ⟨hv0, rfl, by unfold chg; exact decide_eq_true ⟨by omega, by omega, by omega⟩⟩))
  rw [if_neg hk, if_neg hk]
  by_cases hl : liv now f r.id = false
  · rw [if_pos hl, if_pos hl]; exact Or.inr (Or.inl ⟨hv0, 3, by simp, rfl, rfl⟩)
  rw [if_neg hl, if_neg hl]
  by_cases k1 : r.kind = 1
  · rw [if_pos k1, if_pos k1]; exact Or.inr (Or.inr (Or.inr ⟨hv0, rfl, by unfold chg; exact decide_eq_false (fun h => h.2.2 k1), rfl⟩))
  have hc : chg r.kind = true := by unfold chg; exact decide_eq_true ⟨by omega, by omega, k1⟩
  rw [if_neg k1, if_neg k1]
  by_cases k2 : r.kind = 2
  · rw [if_pos k2, if_pos k2]; exact Or.inr (Or.inr (Or.inl ⟨hv0, rfl, hc⟩))
  rw [if_neg k2, if_neg k2]
  exact Or.inr (Or.inr (Or.inl ⟨hv0, rfl, hc⟩))

set_option maxRecDepth 100000 in
set_option maxHeartbeats 8000000 in
theorem errors_main (q : Int) (l : List Og) (v : Value) (r : Rq) (w : World) (hv : LR 5 encO w v l) (hk0 : ∀ o ∈ l, o.Kind) (hr : r.Kind) :
    Calls Try.prog 4 #[.int .i64 q, v, .agg r.row] w fun e w' => e = .returned (.bool true) ∧ Below w.heap.size w w' := by
  obtain ⟨oa, cap, rfl, _, hx⟩ := hv
  obtain ⟨n, hn⟩ : ∃ n, n = l.length := ⟨_, rfl⟩
  have hcut := fun W => CutR_val r W
  have hrc := hr.cut
  obtain ⟨c, hc⟩ : ∃ c, c = r.cut := ⟨_, rfl⟩
  rw [← hc] at hcut hrc
  rw [← hn]
  have HX := Lib.hid hx
  have HN := Lib.hid hn
  have HK := Lib.hid hk0
  have HRC := Lib.hid hrc
  obtain ⟨k, i, v, x⟩ := r
  obtain ⟨k', i', v', x'⟩ := c
  simp only [Rq.row] at hcut ⊢
  have HCUT := Lib.hid hcut
  clear hx hn hk0 hrc hr hc hcut
  obtain ⟨W0, hW0⟩ : ∃ W, W = w.alloc (.cells #[.int .i64 k, .string i, .string v, .float .f64 x] 32) := ⟨_, rfl⟩
  have n0 := heap_alloc_new w (.cells #[.int .i64 k, .string i, .string v, .float .f64 x] 32)
  have b0 := (Below.refl w.heap.size w).alloc (Nat.le_refl _) (.cells #[.int .i64 k, .string i, .string v, .float .f64 x] 32)
  rw [← hW0] at n0 b0
  have N0 := Lib.hid n0
  have B0 := Lib.hid b0
  have HW0 := Lib.hid hW0
  have hnew := New_val W0 0 q (by omega)
  have HNEW := Lib.hid hnew
  clear hnew n0 b0 hW0
  go_enter Try.func4, Try.ntmps4
  go_wp2_with fail
  rw [← HW0.out]
  clear HW0
  refine (HNEW.out).mono ?_; rintro e w1 ⟨rfl, pl, bl, hz⟩
  obtain ⟨p, hp⟩ : ∃ p, p = W0.heap.size + 1 := ⟨_, rfl⟩
  obtain ⟨b, hb⟩ : ∃ b, b = W0.heap.size := ⟨_, rfl⟩
  rw [← hp, ← hb] at pl
  rw [← hp]
  have HP := Lib.hid hp
  have HB := Lib.hid hb
  have PL1 := Lib.hid pl
  have B1 := Lib.hid (stepR B0.out bl)
  have n1 := (bl.block _ (lt_of_rowR N0.out)).trans N0.out
  have N1 := Lib.hid n1
  clear hp hb pl bl hz HNEW n1
  go_wp2_with fail
  go_loopw [8] (fun j wr => ∃ (s m now : Nat) (f : ByteArray → Option Ses), s ≤ n ∧ s ≤ 30 ∧ j = .int .i64 s ∧ m = s ∧ PL wr p b m now q f ∧ Mp p b w1 wr) (fun j _ => n - (intOf j).toNat)
  case atStart => exact ⟨0, 0, 0, _, by omega, by omega, rfl, rfl, PL1.out, Mp.refl _ _ _⟩
  case round =>
    obtain ⟨s, m, now, f, hs, hs30, rfl, hm, hpl, hmp⟩ := hrel
    have PLr := Lib.hid hpl
    have MPr := Lib.hid hmp
    have HM := Lib.hid hm
    clear hpl hmp hm
    by_cases hlt : s < n
    · have hkn : (s : Int) < (n : Int) := by omega
      by_cases hlt30 : s < 30
      · have hk30 : (s : Int) < 30 := by omega
        have hsl : s < l.length := by have := HN.out; omega
        obtain ⟨b', off, hoa, hcell⟩ := HX.out s hsl
        have hok := HK.out l[s] (List.getElem_mem hsl)
        obtain ⟨o, ho⟩ : ∃ o, o = l[s] := ⟨_, rfl⟩
        rw [← ho] at hcell hok
        obtain ⟨⟨ok, oi, ov, ox⟩, ot⟩ := o
        have hpw : w.heap.size ≤ p := by have := HP.out; have := B0.out.size; omega
        have hbw : w.heap.size ≤ b := by have := HB.out; have := B0.out.size; omega
        have BW : ∀ V, Mp p b w1 V → Below w.heap.size w V := fun V hV => B1.out.trans (hV.below hpw hbw B1.out.size)
        have hl0 := lt_of_cellR (hcell 0 _ rfl)
        have cells : ∀ V, Mp p b w1 V → ∀ j u, (encO ⟨⟨ok, oi, ov, ox⟩, ot⟩)[j]? = some u → V.cell? ⟨b', off + s * 5 + j, none⟩ = some u := fun V hV j u hu => ((BW V hV).cell (p := ⟨b', off + s * 5 + j, none⟩) hl0).trans (hcell j u hu)
        have c4 := cells wr MPr.out 4 _ rfl
        have CELLS := Lib.hid cells
        have OK := Lib.hid hok
        have BW' := Lib.hid BW
        have HTK := Lib.hid (Tick_any wr p b m now q f ot PLr.out (by have := HM.out; omega) hok.t)
        have hcutr := fun W => CutR_val ⟨ok, oi, ov, ox⟩ W
        have hrc := hok.r.cut
        obtain ⟨cc, hcc⟩ : ∃ c, c = Rq.cut ⟨ok, oi, ov, ox⟩ := ⟨_, rfl⟩
        rw [← hcc] at hcutr hrc
        obtain ⟨dk, di, dv, dx⟩ := cc
        simp only [Rq.row] at hcutr
        have HCR := Lib.hid hcutr
        have HRC2 := Lib.hid hrc
        subst hoa
        clear cells hcell ho hok BW hcutr hrc hcc hl0
        go_wp2_with fail
        refine (HTK.out).mono ?_; rintro e w2 ⟨⟨d, rfl⟩, pl2, mp2⟩
        have PL2 := Lib.hid pl2
        have mp12 := MPr.out.trans mp2
        have MP2 := Lib.hid mp12
        have d0 := CELLS.out w2 mp12 0 _ rfl
        have d1 := CELLS.out w2 mp12 1 _ rfl
        have d2 := CELLS.out w2 mp12 2 _ rfl
        have d3 := CELLS.out w2 mp12 3 _ rfl
        rw [Nat.add_zero] at d0
        clear pl2 mp2 mp12 c4
        go_wp2_with fail
        refine (HCR.out _).mono ?_; rintro e w3 ⟨rfl, b3⟩
        have pl3 := PL2.out.below b3
        have mp3 := MP2.out.trans (Mp.of_below b3)
        obtain ⟨L, hL, hll⟩ := pl3.ses
        have dd := Do_val w3 p b m (addV now ot) q f ⟨dk, di, dv, dx⟩ L pl3 HRC2.out (by have := HM.out; omega) hL
        obtain ⟨f', hf'⟩ : ∃ g, g = doF (addV now ot) q f L.length ⟨dk, di, dv, dx⟩ := ⟨_, rfl⟩
        obtain ⟨y, hy⟩ : ∃ y, y = doR (addV now ot) q f L.length ⟨dk, di, dv, dx⟩ := ⟨_, rfl⟩
        rw [← hf', ← hy] at dd
        obtain ⟨ye, yv, yd⟩ := y
        simp only [Rq.row, Rp.row] at dd
        have DD := Lib.hid dd
        have MP3 := Lib.hid mp3
        clear dd pl3 mp3 b3 hL hll hf' hy d0 d1 d2 d3
        go_wp2_with fail
        refine (DD.out).mono ?_; rintro e w4 ⟨rfl, pl4, mp4⟩
        have PL4 := Lib.hid pl4
        have MP4 := Lib.hid (MP3.out.trans mp4)
        clear pl4 mp4
        go_wp2_with fail
        go_roundw
        case rel => exact ⟨s + 1, m + 1, _, _, by omega, by omega, by go_num, by rw [HM.out], PL4.out, MP4.out⟩
        case measure => simp [intOf]; omega
      · have hk30 : ¬ (s : Int) < 30 := by omega
        have hA0 := HP.out
        have hB0 := HB.out
        have hs0 := lt_of_rowR N0.out
        have n2 := (MPr.out.block w.heap.size (by have := B1.out.size; have := lt_of_rowR N1.out; omega) (by omega) (by omega)).trans N1.out
        have bw := B1.out.trans (MPr.out.below (B := w.heap.size) (by omega) (by omega) B1.out.size)
        obtain ⟨e0, e1, e2, e3⟩ : wr.cell? ⟨w.heap.size, 0, none⟩ = some (.int .i64 k) ∧ wr.cell? ⟨w.heap.size, 1, none⟩ = some (.string i) ∧ wr.cell? ⟨w.heap.size, 2, none⟩ = some (.string v) ∧ wr.cell? ⟨w.heap.size, 3, none⟩ = some (.float .f64 x) := ⟨(cell_of_row _ _ 0 _ _ _ n2).trans rfl, (cell_of_row _ _ 1 _ _ _ n2).trans rfl, (cell_of_row _ _ 2 _ _ _ n2).trans rfl, (cell_of_row _ _ 3 _ _ _ n2).trans rfl⟩
        have N2 := Lib.hid n2
        have BW := Lib.hid bw
        clear n2 bw hA0 hB0 hs0
        go_wp2_with fail
        refine (HCUT.out _).mono ?_; rintro e w5 ⟨rfl, b5⟩
        have pl5 := PLr.out.below b5
        have n5 := (b5.block _ (lt_of_rowR N2.out)).trans N2.out
        have bw5 := stepR BW.out b5
        have ONE5 : Hid ((#[.int .i64 k', .string i', .string v', .float .f64 x'] : Array Value).all (·.oneCell') = true) := Lib.hid (by simp [Value.oneCell'])
        obtain ⟨W6, hW6⟩ : ∃ W, W = w5.setRow w.heap.size #[.int .i64 k', .string i', .string v', .float .f64 x'] := ⟨_, rfl⟩
        have hA0 := HP.out
        have hB0 := HB.out
        have hs0 := lt_of_rowR N0.out
        have n6 := setRow_heap w5 w.heap.size _ #[.int .i64 k', .string i', .string v', .float .f64 x'] _ _ n5
        have pl6 : PL w5 p b m now q f → PL (w5.setRow w.heap.size #[.int .i64 k', .string i', .string v', .float .f64 x']) p b m now q f := fun h => h.keep (setRow_other _ _ _ _ (by omega)) (setRow_other _ _ _ _ (by omega))
        have pl6 := pl6 pl5
        have bw6 := below_srow bw5 (show w.heap.size ≤ w.heap.size by omega) #[.int .i64 k', .string i', .string v', .float .f64 x']
        rw [← hW6] at n6 pl6 bw6
        have N5 := Lib.hid n5
        have N6 := Lib.hid n6
        have PL6 := Lib.hid pl6
        have BW6 := Lib.hid bw6
        have HW6 := Lib.hid hW6
        clear b5 pl5 n5 bw5 n6 pl6 bw6 hW6 hA0 hB0 hs0 e0 e1 e2 e3
        go_wp2_with (refine wpList_store_row rfl 32 _ _ rfl w.heap.size #[.int .i64 k', .string i', .string v', .float .f64 x'] rfl rfl _ _ N5.out (by kernel_rfl) rfl ONE5.out ?_)
        rw [← HW6.out]
        clear HW6 N5 ONE5
        obtain ⟨L, hL, hll⟩ := PL6.out.ses
        have hm6 : m ≤ 1000000 := by have := HM.out; omega
        have hse := sess_is W6 p b m now q f L PL6.out hm6 hL
        have HSE := Lib.hid hse
        have HL := Lib.hid hL
        have HLL := Lib.hid hll
        clear hse hL hll
        go_wp2_with fail
        refine (HSE.out).mono ?_; rintro e w7 ⟨⟨u7, rfl, l7⟩, b7⟩
        have hli := Lives_val w7 u7 L l7 (by have := HLL.out; omega)
        have HLI := Lib.hid hli
        obtain ⟨o7, c7, hu7⟩ := l7.form
        have B7 := Lib.hid b7
        clear hli l7 b7
        subst hu7
        go_wp2_with fail
        refine (HLI.out).mono ?_; rintro e w8 ⟨⟨u8, rfl, l8⟩, b8⟩
        have B8 := Lib.hid (stepR B7.out b8)
        have L8 := Lib.hid l8
        obtain ⟨e0, e1, e2, e3⟩ : w8.cell? ⟨w.heap.size, 0, none⟩ = some (.int .i64 k') ∧ w8.cell? ⟨w.heap.size, 1, none⟩ = some (.string i') ∧ w8.cell? ⟨w.heap.size, 2, none⟩ = some (.string v') ∧ w8.cell? ⟨w.heap.size, 3, none⟩ = some (.float .f64 x') := by
          have n8 := ((stepR B7.out b8).block _ (lt_of_rowR N6.out)).trans N6.out
          exact ⟨(cell_of_row _ _ 0 _ _ _ n8).trans rfl, (cell_of_row _ _ 1 _ _ _ n8).trans rfl, (cell_of_row _ _ 2 _ _ _ n8).trans rfl, (cell_of_row _ _ 3 _ _ _ n8).trans rfl⟩
        have pl8 := PL6.out.below (stepR B7.out b8)
        have N8 := Lib.hid (((stepR B7.out b8).block _ (lt_of_rowR N6.out)).trans N6.out)
        have BW8 := Lib.hid (stepR BW6.out (stepR B7.out b8))
        have PL8 := Lib.hid pl8
        obtain ⟨oL, cL, hu8⟩ := l8.form
        subst hu8
        clear l8 b8 pl8
        have dd := Do_val w8 p b m now q f ⟨k', i', v', x'⟩ L PL8.out HRC.out (by have := HM.out; omega) HL.out
        have hcs := err_cases now q f L.length ⟨k', i', v', x'⟩
        have hva := fun W => Valid_val ⟨k', i', v', x'⟩ W HRC.out
        have hch := fun W => Changes_val ⟨k', i', v', x'⟩ W
        obtain ⟨ve, hve⟩ : ∃ e, e = validE ⟨k', i', v', x'⟩ := ⟨_, rfl⟩
        obtain ⟨f', hf'⟩ : ∃ g, g = doF now q f L.length ⟨k', i', v', x'⟩ := ⟨_, rfl⟩
        obtain ⟨y, hy⟩ : ∃ y, y = doR now q f L.length ⟨k', i', v', x'⟩ := ⟨_, rfl⟩
        obtain ⟨cg, hcg⟩ : ∃ c, c = chg k' := ⟨_, rfl⟩
        simp only [← hve] at hva hcs
        rw [← hf', ← hy] at dd hcs
        simp only [← hcg] at hch hcs
        clear hve hf' hy hcg
        obtain ⟨ye, yv, yd⟩ := y
        simp only [Rq.row, Rp.row] at dd hva hch
        have DD := Lib.hid dd
        have VA := Lib.hid hva
        have CH := Lib.hid hch
        clear dd hva hch
        rcases hcs with ⟨hne, hy, hf⟩ | ⟨hve, e, he, hy, hf⟩ | ⟨hve, hye, hcg⟩ | ⟨hve, hye, hcg, hf⟩
        · obtain ⟨rfl, rfl, rfl⟩ : ye = ve ∧ yv = ⟨#[]⟩ ∧ yd = 0 := by injection hy with a b c; exact ⟨a, b, c⟩
          subst hf
          have h1 : (ye != 0) = true := bne_iff_ne.2 hne
          have h2 : (ye == 0) = false := beq_eq_false_iff_ne.2 hne
          have h3 : (ye = 0) = False := eq_false hne
          clear hne hy
          go_wp2_with fail
          refine (DD.out).mono ?_; rintro e w9 ⟨rfl, pl9, mp9⟩
          have hA0 := HP.out
          have hB0 := HB.out
          have hs0 := lt_of_rowR N0.out
          have lts := pl9.lts
          have n9 := (mp9.block _ (lt_of_rowR N8.out) (by omega) (by omega)).trans N8.out
          have bA := (Below.refl w9.heap.size w9).alloc (Nat.le_refl _) (.cells #[.int .i64 ye, .string ⟨#[]⟩, .int .u64 0] 41)
          have nA := heap_alloc_new w9 (.cells #[.int .i64 ye, .string ⟨#[]⟩, .int .u64 0] 41)
          obtain ⟨A, hA⟩ : ∃ A, A = w9.heap.size := ⟨_, rfl⟩
          obtain ⟨WA, hWA⟩ : ∃ W, W = w9.alloc (.cells #[.int .i64 ye, .string ⟨#[]⟩, .int .u64 0] 41) := ⟨_, rfl⟩
          rw [← hWA] at nA bA
          rw [← hA] at nA
          have PLA := Lib.hid (pl9.below bA)
          have NRQ := Lib.hid ((bA.block _ (lt_of_rowR n9)).trans n9)
          have NRP := Lib.hid nA
          have mpA := mp9.trans (Mp.of_below (p := p) (b := b) bA)
          have LA : Hid (LR 3 Go.Proofs.Ytmbidannodelfaa.G.encS WA (.slice oL L.length cL) L) := Lib.hid (lr_mp L8.out PL8.out mpA)
          have BWA : Hid (Below w.heap.size w WA) := Lib.hid (BW8.out.trans (mpA.below (by omega) (by omega) BW8.out.size))
          have HA := Lib.hid hA
          have HWA := Lib.hid hWA
          clear pl9 mp9 hA0 hB0 hs0 lts n9 bA nA mpA hA hWA e0 e1 e2 e3
          go_wp2_with fail
          rw [← HWA.out, ← HA.out]
          clear HA HWA
          have r0 := cell_regrown ((cell_of_row _ _ 0 _ _ _ NRQ.out).trans (show _ = some (.int .i64 k') from rfl))
          have r1 := cell_regrown ((cell_of_row _ _ 1 _ _ _ NRQ.out).trans (show _ = some (.string i') from rfl))
          have r2 := cell_regrown ((cell_of_row _ _ 2 _ _ _ NRQ.out).trans (show _ = some (.string v') from rfl))
          have r3 := cell_regrown ((cell_of_row _ _ 3 _ _ _ NRQ.out).trans (show _ = some (.float .f64 x') from rfl))
          have z0 := cell_regrown ((cell_of_row _ _ 0 _ _ _ NRP.out).trans (show _ = some (.int .i64 ye) from rfl))
          have z1 := cell_regrown ((cell_of_row _ _ 1 _ _ _ NRP.out).trans (show _ = some (.string ⟨#[]⟩) from rfl))
          have z2 := cell_regrown ((cell_of_row _ _ 2 _ _ _ NRP.out).trans (show _ = some (.int .u64 0) from rfl))
          refine Loose.wp_region_quiet_fast (by kernel_rfl) (by kernel_rfl) ?_
          (try simp only [List.append_eq, List.cons_append, List.nil_append])
          repeat (go_big_quiet_step (fail))
          go_big_quiet_step ((go_at_call 21; exact Calls.regrown_of (VA.out _)))
          repeat (go_big_quiet_step (fail))
          go_big_quiet_step ((go_at_call 21; exact Calls.regrown_of (VA.out _)))
          repeat (go_big_quiet_step (fail))
          refine wpQuiet_nil ?_
          intro _ hw'
          obtain ⟨⟨dq, osq⟩, hw''⟩ := hw'
          subst hw''
          clear z0 z1 z2
          clear r0 r1 r2 r3
          have bQ := below_regrown WA dq osq
          obtain ⟨V, hV⟩ : ∃ V, V = Go.Sort.grow (Go.redrawn WA dq) osq := ⟨_, rfl⟩
          rw [← hV] at bQ
          rw [← hV]
          have BQ := Lib.hid bQ
          have nq := (bQ.block _ (lt_of_rowR NRQ.out)).trans NRQ.out
          have np := (bQ.block _ (lt_of_rowR NRP.out)).trans NRP.out
          have NQ := Lib.hid nq
          have NP := Lib.hid np
          obtain ⟨z0, z1, z2⟩ : V.cell? ⟨A, 0, none⟩ = some (.int .i64 ye) ∧ V.cell? ⟨A, 1, none⟩ = some (.string ⟨#[]⟩) ∧ V.cell? ⟨A, 2, none⟩ = some (.int .u64 0) := ⟨(cell_of_row _ _ 0 _ _ _ np).trans rfl, (cell_of_row _ _ 1 _ _ _ np).trans rfl, (cell_of_row _ _ 2 _ _ _ np).trans rfl⟩
          obtain ⟨r0, r1, r2, r3⟩ : V.cell? ⟨w.heap.size, 0, none⟩ = some (.int .i64 k') ∧ V.cell? ⟨w.heap.size, 1, none⟩ = some (.string i') ∧ V.cell? ⟨w.heap.size, 2, none⟩ = some (.string v') ∧ V.cell? ⟨w.heap.size, 3, none⟩ = some (.float .f64 x') := ⟨(cell_of_row _ _ 0 _ _ _ nq).trans rfl, (cell_of_row _ _ 1 _ _ _ nq).trans rfl, (cell_of_row _ _ 2 _ _ _ nq).trans rfl, (cell_of_row _ _ 3 _ _ _ nq).trans rfl⟩
          clear hV bQ nq np
          go_wp2_with fail
          refine (VA.out _).mono ?_; rintro e u1 ⟨rfl, c1⟩
          have n1 := (c1.block _ (lt_of_rowR NP.out)).trans NP.out
          have n2 := (c1.block _ (lt_of_rowR NQ.out)).trans NQ.out
          obtain ⟨z0', z1', z2'⟩ : u1.cell? ⟨A, 0, none⟩ = some (.int .i64 ye) ∧ u1.cell? ⟨A, 1, none⟩ = some (.string ⟨#[]⟩) ∧ u1.cell? ⟨A, 2, none⟩ = some (.int .u64 0) := ⟨(cell_of_row _ _ 0 _ _ _ n1).trans rfl, (cell_of_row _ _ 1 _ _ _ n1).trans rfl, (cell_of_row _ _ 2 _ _ _ n1).trans rfl⟩
          obtain ⟨r0', r1', r2', r3'⟩ : u1.cell? ⟨w.heap.size, 0, none⟩ = some (.int .i64 k') ∧ u1.cell? ⟨w.heap.size, 1, none⟩ = some (.string i') ∧ u1.cell? ⟨w.heap.size, 2, none⟩ = some (.string v') ∧ u1.cell? ⟨w.heap.size, 3, none⟩ = some (.float .f64 x') := ⟨(cell_of_row _ _ 0 _ _ _ n2).trans rfl, (cell_of_row _ _ 1 _ _ _ n2).trans rfl, (cell_of_row _ _ 2 _ _ _ n2).trans rfl, (cell_of_row _ _ 3 _ _ _ n2).trans rfl⟩
          have C1 := Lib.hid (stepR BQ.out c1)
          clear c1 n1 n2 z0 z1 z2 r0 r1 r2 r3
          go_wp2_with fail
          have C2 := C1
          clear z0' z1' z2' r0' r1' r2' r3'
          obtain ⟨u2, hu2⟩ : ∃ u, u = u1 := ⟨_, rfl⟩
          rw [← hu2] at C2
          rw [← hu2]
          clear hu2
          refine (sess_is u2 p b (m + 1) now q _ L (PLA.out.below C2.out) (by have := HM.out; omega) HL.out).mono ?_; rintro e u3 ⟨⟨s3, rfl, l3⟩, c3⟩
          have hli := Lives_val u3 s3 L l3 (by have := HLL.out; omega)
          obtain ⟨o3, c3', hs3⟩ := l3.form
          subst hs3
          have HLI3 := Lib.hid hli
          have C3 := Lib.hid (stepR C2.out c3)
          clear hli l3 c3
          go_wp2_with fail
          refine (HLI3.out).mono ?_; rintro e u4 ⟨⟨s4, rfl, l4⟩, c4⟩
          have C4 := Lib.hid (stepR C3.out c4)
          have hsm := Same_val u4 _ s4 L L (LA.out.below C4.out (Nat.le_refl _)) l4 (by have := HLL.out; omega)
          rw [decide_eq_true rfl] at hsm
          obtain ⟨o4, c4', hs4⟩ := l4.form
          subst hs4
          have HSM := Lib.hid hsm
          clear hsm l4 c4
          go_wp2_with fail
          refine (HSM.out).mono ?_; rintro e u5 ⟨rfl, c5⟩
          have C5 := Lib.hid (stepR C4.out c5)
          clear c5
          go_wp2_with fail
          refine (fixed_val _).mono ?_; rintro e u6 ⟨rfl, c6⟩
          go_wp2_with fail
          go_ret
          exact ⟨rfl, stepR BWA.out (stepR C5.out c6)⟩
        · obtain ⟨rfl, rfl, rfl⟩ : ye = e ∧ yv = ⟨#[]⟩ ∧ yd = 0 := by injection hy with a b c; exact ⟨a, b, c⟩
          subst hf
          subst hve
          have hne : ye ≠ 0 := by rcases he with rfl | rfl | rfl <;> decide
          have hn1 : ye ≠ 1 := by rcases he with rfl | rfl | rfl <;> decide
          have h1 : (ye != 0) = true := bne_iff_ne.2 hne
          have h2 : (ye == 0) = false := beq_eq_false_iff_ne.2 hne
          have h3 : (ye = 0) = False := eq_false hne
          have h4 : (ye == 1) = false := beq_eq_false_iff_ne.2 hn1
          have h5 : (ye = 1) = False := eq_false hn1
          clear he hy hne hn1
          go_wp2_with fail
          refine (DD.out).mono ?_; rintro e w9 ⟨rfl, pl9, mp9⟩
          have hA0 := HP.out
          have hB0 := HB.out
          have hs0 := lt_of_rowR N0.out
          have lts := pl9.lts
          have n9 := (mp9.block _ (lt_of_rowR N8.out) (by omega) (by omega)).trans N8.out
          have bA := (Below.refl w9.heap.size w9).alloc (Nat.le_refl _) (.cells #[.int .i64 ye, .string ⟨#[]⟩, .int .u64 0] 41)
          have nA := heap_alloc_new w9 (.cells #[.int .i64 ye, .string ⟨#[]⟩, .int .u64 0] 41)
          obtain ⟨A, hA⟩ : ∃ A, A = w9.heap.size := ⟨_, rfl⟩
          obtain ⟨WA, hWA⟩ : ∃ W, W = w9.alloc (.cells #[.int .i64 ye, .string ⟨#[]⟩, .int .u64 0] 41) := ⟨_, rfl⟩
          rw [← hWA] at nA bA
          rw [← hA] at nA
          have PLA := Lib.hid (pl9.below bA)
          have NRQ := Lib.hid ((bA.block _ (lt_of_rowR n9)).trans n9)
          have NRP := Lib.hid nA
          have mpA := mp9.trans (Mp.of_below (p := p) (b := b) bA)
          have LA : Hid (LR 3 Go.Proofs.Ytmbidannodelfaa.G.encS WA (.slice oL L.length cL) L) := Lib.hid (lr_mp L8.out PL8.out mpA)
          have BWA : Hid (Below w.heap.size w WA) := Lib.hid (BW8.out.trans (mpA.below (by omega) (by omega) BW8.out.size))
          have HA := Lib.hid hA
          have HWA := Lib.hid hWA
          clear pl9 mp9 hA0 hB0 hs0 lts n9 bA nA mpA hA hWA e0 e1 e2 e3
          go_wp2_with fail
          rw [← HWA.out, ← HA.out]
          clear HA HWA
          have r0 := cell_regrown ((cell_of_row _ _ 0 _ _ _ NRQ.out).trans (show _ = some (.int .i64 k') from rfl))
          have r1 := cell_regrown ((cell_of_row _ _ 1 _ _ _ NRQ.out).trans (show _ = some (.string i') from rfl))
          have r2 := cell_regrown ((cell_of_row _ _ 2 _ _ _ NRQ.out).trans (show _ = some (.string v') from rfl))
          have r3 := cell_regrown ((cell_of_row _ _ 3 _ _ _ NRQ.out).trans (show _ = some (.float .f64 x') from rfl))
          refine Loose.wp_region_quiet_fast (by kernel_rfl) (by kernel_rfl) ?_
          (try simp only [List.append_eq, List.cons_append, List.nil_append])
          repeat (go_big_quiet_step (fail))
          go_big_quiet_step ((go_at_call 21; exact Calls.regrown_of (VA.out _)))
          repeat (go_big_quiet_step (fail))
          refine wpQuiet_nil ?_
          intro _ hw'
          obtain ⟨⟨dq, osq⟩, hw''⟩ := hw'
          subst hw''
          clear r0 r1 r2 r3
          have bQ := below_regrown WA dq osq
          obtain ⟨V, hV⟩ : ∃ V, V = Go.Sort.grow (Go.redrawn WA dq) osq := ⟨_, rfl⟩
          rw [← hV] at bQ
          rw [← hV]
          have BQ := Lib.hid bQ
          have nq := (bQ.block _ (lt_of_rowR NRQ.out)).trans NRQ.out
          have np := (bQ.block _ (lt_of_rowR NRP.out)).trans NRP.out
          have NQ := Lib.hid nq
          have NP := Lib.hid np
          obtain ⟨z0, z1, z2⟩ : V.cell? ⟨A, 0, none⟩ = some (.int .i64 ye) ∧ V.cell? ⟨A, 1, none⟩ = some (.string ⟨#[]⟩) ∧ V.cell? ⟨A, 2, none⟩ = some (.int .u64 0) := ⟨(cell_of_row _ _ 0 _ _ _ np).trans rfl, (cell_of_row _ _ 1 _ _ _ np).trans rfl, (cell_of_row _ _ 2 _ _ _ np).trans rfl⟩
          obtain ⟨r0, r1, r2, r3⟩ : V.cell? ⟨w.heap.size, 0, none⟩ = some (.int .i64 k') ∧ V.cell? ⟨w.heap.size, 1, none⟩ = some (.string i') ∧ V.cell? ⟨w.heap.size, 2, none⟩ = some (.string v') ∧ V.cell? ⟨w.heap.size, 3, none⟩ = some (.float .f64 x') := ⟨(cell_of_row _ _ 0 _ _ _ nq).trans rfl, (cell_of_row _ _ 1 _ _ _ nq).trans rfl, (cell_of_row _ _ 2 _ _ _ nq).trans rfl, (cell_of_row _ _ 3 _ _ _ nq).trans rfl⟩
          clear hV bQ nq np
          go_wp2_with fail
          refine (VA.out _).mono ?_; rintro e u1 ⟨rfl, c1⟩
          have n1 := (c1.block _ (lt_of_rowR NP.out)).trans NP.out
          have n2 := (c1.block _ (lt_of_rowR NQ.out)).trans NQ.out
          obtain ⟨z0', z1', z2'⟩ : u1.cell? ⟨A, 0, none⟩ = some (.int .i64 ye) ∧ u1.cell? ⟨A, 1, none⟩ = some (.string ⟨#[]⟩) ∧ u1.cell? ⟨A, 2, none⟩ = some (.int .u64 0) := ⟨(cell_of_row _ _ 0 _ _ _ n1).trans rfl, (cell_of_row _ _ 1 _ _ _ n1).trans rfl, (cell_of_row _ _ 2 _ _ _ n1).trans rfl⟩
          obtain ⟨r0', r1', r2', r3'⟩ : u1.cell? ⟨w.heap.size, 0, none⟩ = some (.int .i64 k') ∧ u1.cell? ⟨w.heap.size, 1, none⟩ = some (.string i') ∧ u1.cell? ⟨w.heap.size, 2, none⟩ = some (.string v') ∧ u1.cell? ⟨w.heap.size, 3, none⟩ = some (.float .f64 x') := ⟨(cell_of_row _ _ 0 _ _ _ n2).trans rfl, (cell_of_row _ _ 1 _ _ _ n2).trans rfl, (cell_of_row _ _ 2 _ _ _ n2).trans rfl, (cell_of_row _ _ 3 _ _ _ n2).trans rfl⟩
          have C1 := Lib.hid (stepR BQ.out c1)
          clear c1 n1 n2 z0 z1 z2 r0 r1 r2 r3
          go_wp2_with fail
          have C2 := C1
          clear z0' z1' z2' r0' r1' r2' r3'
          obtain ⟨u2, hu2⟩ : ∃ u, u = u1 := ⟨_, rfl⟩
          rw [← hu2] at C2
          rw [← hu2]
          clear hu2
          refine (sess_is u2 p b (m + 1) now q _ L (PLA.out.below C2.out) (by have := HM.out; omega) HL.out).mono ?_; rintro e u3 ⟨⟨s3, rfl, l3⟩, c3⟩
          have hli := Lives_val u3 s3 L l3 (by have := HLL.out; omega)
          obtain ⟨o3, c3', hs3⟩ := l3.form
          subst hs3
          have HLI3 := Lib.hid hli
          have C3 := Lib.hid (stepR C2.out c3)
          clear hli l3 c3
          go_wp2_with fail
          refine (HLI3.out).mono ?_; rintro e u4 ⟨⟨s4, rfl, l4⟩, c4⟩
          have C4 := Lib.hid (stepR C3.out c4)
          have hsm := Same_val u4 _ s4 L L (LA.out.below C4.out (Nat.le_refl _)) l4 (by have := HLL.out; omega)
          rw [decide_eq_true rfl] at hsm
          obtain ⟨o4, c4', hs4⟩ := l4.form
          subst hs4
          have HSM := Lib.hid hsm
          clear hsm l4 c4
          go_wp2_with fail
          refine (HSM.out).mono ?_; rintro e u5 ⟨rfl, c5⟩
          have C5 := Lib.hid (stepR C4.out c5)
          clear c5
          go_wp2_with fail
          refine (fixed_val _).mono ?_; rintro e u6 ⟨rfl, c6⟩
          go_wp2_with fail
          go_ret
          exact ⟨rfl, stepR BWA.out (stepR C5.out c6)⟩
        · simp only at hye
          subst hye
          subst hve
          subst hcg
          go_wp2_with fail
          refine (DD.out).mono ?_; rintro e w9 ⟨rfl, pl9, mp9⟩
          have hA0 := HP.out
          have hB0 := HB.out
          have hs0 := lt_of_rowR N0.out
          have lts := pl9.lts
          have n9 := (mp9.block _ (lt_of_rowR N8.out) (by omega) (by omega)).trans N8.out
          have bA := (Below.refl w9.heap.size w9).alloc (Nat.le_refl _) (.cells #[.int .i64 0, .string yv, .int .u64 (yd : Int)] 41)
          have nA := heap_alloc_new w9 (.cells #[.int .i64 0, .string yv, .int .u64 (yd : Int)] 41)
          obtain ⟨A, hA⟩ : ∃ A, A = w9.heap.size := ⟨_, rfl⟩
          obtain ⟨WA, hWA⟩ : ∃ W, W = w9.alloc (.cells #[.int .i64 0, .string yv, .int .u64 (yd : Int)] 41) := ⟨_, rfl⟩
          rw [← hWA] at nA bA
          rw [← hA] at nA
          have PLA := Lib.hid (pl9.below bA)
          have NRQ := Lib.hid ((bA.block _ (lt_of_rowR n9)).trans n9)
          have NRP := Lib.hid nA
          have mpA := mp9.trans (Mp.of_below (p := p) (b := b) bA)
          have LA : Hid (LR 3 Go.Proofs.Ytmbidannodelfaa.G.encS WA (.slice oL L.length cL) L) := Lib.hid (lr_mp L8.out PL8.out mpA)
          have BWA : Hid (Below w.heap.size w WA) := Lib.hid (BW8.out.trans (mpA.below (by omega) (by omega) BW8.out.size))
          have HA := Lib.hid hA
          have HWA := Lib.hid hWA
          clear pl9 mp9 hA0 hB0 hs0 lts n9 bA nA mpA hA hWA e0 e1 e2 e3
          go_wp2_with fail
          rw [← HWA.out, ← HA.out]
          clear HA HWA
          have r0 := cell_regrown ((cell_of_row _ _ 0 _ _ _ NRQ.out).trans (show _ = some (.int .i64 k') from rfl))
          have r1 := cell_regrown ((cell_of_row _ _ 1 _ _ _ NRQ.out).trans (show _ = some (.string i') from rfl))
          have r2 := cell_regrown ((cell_of_row _ _ 2 _ _ _ NRQ.out).trans (show _ = some (.string v') from rfl))
          have r3 := cell_regrown ((cell_of_row _ _ 3 _ _ _ NRQ.out).trans (show _ = some (.float .f64 x') from rfl))
          refine Loose.wp_region_quiet_fast (by kernel_rfl) (by kernel_rfl) ?_
          (try simp only [List.append_eq, List.cons_append, List.nil_append])
          repeat (go_big_quiet_step (fail))
          go_big_quiet_step ((go_at_call 21; exact Calls.regrown_of (VA.out _)))
          repeat (go_big_quiet_step (fail))
          refine wpQuiet_nil ?_
          intro _ hw'
          obtain ⟨⟨dq, osq⟩, hw''⟩ := hw'
          subst hw''
          clear r0 r1 r2 r3
          have bQ := below_regrown WA dq osq
          obtain ⟨V, hV⟩ : ∃ V, V = Go.Sort.grow (Go.redrawn WA dq) osq := ⟨_, rfl⟩
          rw [← hV] at bQ
          rw [← hV]
          have BQ := Lib.hid bQ
          have nq := (bQ.block _ (lt_of_rowR NRQ.out)).trans NRQ.out
          have np := (bQ.block _ (lt_of_rowR NRP.out)).trans NRP.out
          have NQ := Lib.hid nq
          have NP := Lib.hid np
          obtain ⟨z0, z1, z2⟩ : V.cell? ⟨A, 0, none⟩ = some (.int .i64 0) ∧ V.cell? ⟨A, 1, none⟩ = some (.string yv) ∧ V.cell? ⟨A, 2, none⟩ = some (.int .u64 (yd : Int)) := ⟨(cell_of_row _ _ 0 _ _ _ np).trans rfl, (cell_of_row _ _ 1 _ _ _ np).trans rfl, (cell_of_row _ _ 2 _ _ _ np).trans rfl⟩
          obtain ⟨r0, r1, r2, r3⟩ : V.cell? ⟨w.heap.size, 0, none⟩ = some (.int .i64 k') ∧ V.cell? ⟨w.heap.size, 1, none⟩ = some (.string i') ∧ V.cell? ⟨w.heap.size, 2, none⟩ = some (.string v') ∧ V.cell? ⟨w.heap.size, 3, none⟩ = some (.float .f64 x') := ⟨(cell_of_row _ _ 0 _ _ _ nq).trans rfl, (cell_of_row _ _ 1 _ _ _ nq).trans rfl, (cell_of_row _ _ 2 _ _ _ nq).trans rfl, (cell_of_row _ _ 3 _ _ _ nq).trans rfl⟩
          clear hV bQ nq np
          go_wp2_with fail
          refine (VA.out _).mono ?_; rintro e u1 ⟨rfl, c1⟩
          have n1 := (c1.block _ (lt_of_rowR NP.out)).trans NP.out
          have n2 := (c1.block _ (lt_of_rowR NQ.out)).trans NQ.out
          obtain ⟨z0', z1', z2'⟩ : u1.cell? ⟨A, 0, none⟩ = some (.int .i64 0) ∧ u1.cell? ⟨A, 1, none⟩ = some (.string yv) ∧ u1.cell? ⟨A, 2, none⟩ = some (.int .u64 (yd : Int)) := ⟨(cell_of_row _ _ 0 _ _ _ n1).trans rfl, (cell_of_row _ _ 1 _ _ _ n1).trans rfl, (cell_of_row _ _ 2 _ _ _ n1).trans rfl⟩
          obtain ⟨r0', r1', r2', r3'⟩ : u1.cell? ⟨w.heap.size, 0, none⟩ = some (.int .i64 k') ∧ u1.cell? ⟨w.heap.size, 1, none⟩ = some (.string i') ∧ u1.cell? ⟨w.heap.size, 2, none⟩ = some (.string v') ∧ u1.cell? ⟨w.heap.size, 3, none⟩ = some (.float .f64 x') := ⟨(cell_of_row _ _ 0 _ _ _ n2).trans rfl, (cell_of_row _ _ 1 _ _ _ n2).trans rfl, (cell_of_row _ _ 2 _ _ _ n2).trans rfl, (cell_of_row _ _ 3 _ _ _ n2).trans rfl⟩
          have C1 := Lib.hid (stepR BQ.out c1)
          clear c1 n1 n2 z0 z1 z2 r0 r1 r2 r3
          go_wp2_with fail
          refine (CH.out _).mono ?_; rintro e u2 ⟨rfl, c2⟩
          have C2 := Lib.hid (stepR C1.out c2)
          clear c2 z0' z1' z2' r0' r1' r2' r3'
          go_wp2_with fail
          have C5 := C2
          refine (fixed_val _).mono ?_; rintro e u6 ⟨rfl, c6⟩
          go_wp2_with fail
          go_ret
          exact ⟨rfl, stepR BWA.out (stepR C5.out c6)⟩
        · simp only at hye
          subst hye
          subst hve
          subst hcg
          subst hf
          go_wp2_with fail
          refine (DD.out).mono ?_; rintro e w9 ⟨rfl, pl9, mp9⟩
          have hA0 := HP.out
          have hB0 := HB.out
          have hs0 := lt_of_rowR N0.out
          have lts := pl9.lts
          have n9 := (mp9.block _ (lt_of_rowR N8.out) (by omega) (by omega)).trans N8.out
          have bA := (Below.refl w9.heap.size w9).alloc (Nat.le_refl _) (.cells #[.int .i64 0, .string yv, .int .u64 (yd : Int)] 41)
          have nA := heap_alloc_new w9 (.cells #[.int .i64 0, .string yv, .int .u64 (yd : Int)] 41)
          obtain ⟨A, hA⟩ : ∃ A, A = w9.heap.size := ⟨_, rfl⟩
          obtain ⟨WA, hWA⟩ : ∃ W, W = w9.alloc (.cells #[.int .i64 0, .string yv, .int .u64 (yd : Int)] 41) := ⟨_, rfl⟩
          rw [← hWA] at nA bA
          rw [← hA] at nA
          have PLA := Lib.hid (pl9.below bA)
          have NRQ := Lib.hid ((bA.block _ (lt_of_rowR n9)).trans n9)
          have NRP := Lib.hid nA
          have mpA := mp9.trans (Mp.of_below (p := p) (b := b) bA)
          have LA : Hid (LR 3 Go.Proofs.Ytmbidannodelfaa.G.encS WA (.slice oL L.length cL) L) := Lib.hid (lr_mp L8.out PL8.out mpA)
          have BWA : Hid (Below w.heap.size w WA) := Lib.hid (BW8.out.trans (mpA.below (by omega) (by omega) BW8.out.size))
          have HA := Lib.hid hA
          have HWA := Lib.hid hWA
          clear pl9 mp9 hA0 hB0 hs0 lts n9 bA nA mpA hA hWA e0 e1 e2 e3
          go_wp2_with fail
          rw [← HWA.out, ← HA.out]
          clear HA HWA
          have r0 := cell_regrown ((cell_of_row _ _ 0 _ _ _ NRQ.out).trans (show _ = some (.int .i64 k') from rfl))
          have r1 := cell_regrown ((cell_of_row _ _ 1 _ _ _ NRQ.out).trans (show _ = some (.string i') from rfl))
          have r2 := cell_regrown ((cell_of_row _ _ 2 _ _ _ NRQ.out).trans (show _ = some (.string v') from rfl))
          have r3 := cell_regrown ((cell_of_row _ _ 3 _ _ _ NRQ.out).trans (show _ = some (.float .f64 x') from rfl))
          refine Loose.wp_region_quiet_fast (by kernel_rfl) (by kernel_rfl) ?_
          (try simp only [List.append_eq, List.cons_append, List.nil_append])
          repeat (go_big_quiet_step (fail))
          go_big_quiet_step ((go_at_call 21; exact Calls.regrown_of (VA.out _)))
          repeat (go_big_quiet_step (fail))
          refine wpQuiet_nil ?_
          intro _ hw'
          obtain ⟨⟨dq, osq⟩, hw''⟩ := hw'
          subst hw''
          clear r0 r1 r2 r3
          have bQ := below_regrown WA dq osq
          obtain ⟨V, hV⟩ : ∃ V, V = Go.Sort.grow (Go.redrawn WA dq) osq := ⟨_, rfl⟩
          rw [← hV] at bQ
          rw [← hV]
          have BQ := Lib.hid bQ
          have nq := (bQ.block _ (lt_of_rowR NRQ.out)).trans NRQ.out
          have np := (bQ.block _ (lt_of_rowR NRP.out)).trans NRP.out
          have NQ := Lib.hid nq
          have NP := Lib.hid np
          obtain ⟨z0, z1, z2⟩ : V.cell? ⟨A, 0, none⟩ = some (.int .i64 0) ∧ V.cell? ⟨A, 1, none⟩ = some (.string yv) ∧ V.cell? ⟨A, 2, none⟩ = some (.int .u64 (yd : Int)) := ⟨(cell_of_row _ _ 0 _ _ _ np).trans rfl, (cell_of_row _ _ 1 _ _ _ np).trans rfl, (cell_of_row _ _ 2 _ _ _ np).trans rfl⟩
          obtain ⟨r0, r1, r2, r3⟩ : V.cell? ⟨w.heap.size, 0, none⟩ = some (.int .i64 k') ∧ V.cell? ⟨w.heap.size, 1, none⟩ = some (.string i') ∧ V.cell? ⟨w.heap.size, 2, none⟩ = some (.string v') ∧ V.cell? ⟨w.heap.size, 3, none⟩ = some (.float .f64 x') := ⟨(cell_of_row _ _ 0 _ _ _ nq).trans rfl, (cell_of_row _ _ 1 _ _ _ nq).trans rfl, (cell_of_row _ _ 2 _ _ _ nq).trans rfl, (cell_of_row _ _ 3 _ _ _ nq).trans rfl⟩
          clear hV bQ nq np
          go_wp2_with fail
          refine (VA.out _).mono ?_; rintro e u1 ⟨rfl, c1⟩
          have n1 := (c1.block _ (lt_of_rowR NP.out)).trans NP.out
          have n2 := (c1.block _ (lt_of_rowR NQ.out)).trans NQ.out
          obtain ⟨z0', z1', z2'⟩ : u1.cell? ⟨A, 0, none⟩ = some (.int .i64 0) ∧ u1.cell? ⟨A, 1, none⟩ = some (.string yv) ∧ u1.cell? ⟨A, 2, none⟩ = some (.int .u64 (yd : Int)) := ⟨(cell_of_row _ _ 0 _ _ _ n1).trans rfl, (cell_of_row _ _ 1 _ _ _ n1).trans rfl, (cell_of_row _ _ 2 _ _ _ n1).trans rfl⟩
          obtain ⟨r0', r1', r2', r3'⟩ : u1.cell? ⟨w.heap.size, 0, none⟩ = some (.int .i64 k') ∧ u1.cell? ⟨w.heap.size, 1, none⟩ = some (.string i') ∧ u1.cell? ⟨w.heap.size, 2, none⟩ = some (.string v') ∧ u1.cell? ⟨w.heap.size, 3, none⟩ = some (.float .f64 x') := ⟨(cell_of_row _ _ 0 _ _ _ n2).trans rfl, (cell_of_row _ _ 1 _ _ _ n2).trans rfl, (cell_of_row _ _ 2 _ _ _ n2).trans rfl, (cell_of_row _ _ 3 _ _ _ n2).trans rfl⟩
          have C1 := Lib.hid (stepR BQ.out c1)
          clear c1 n1 n2 z0 z1 z2 r0 r1 r2 r3
          go_wp2_with fail
          refine (CH.out _).mono ?_; rintro e u2 ⟨rfl, c2⟩
          have C2 := Lib.hid (stepR C1.out c2)
          clear c2 z0' z1' z2' r0' r1' r2' r3'
          go_wp2_with fail
          refine (sess_is u2 p b (m + 1) now q _ L (PLA.out.below C2.out) (by have := HM.out; omega) HL.out).mono ?_; rintro e u3 ⟨⟨s3, rfl, l3⟩, c3⟩
          have hli := Lives_val u3 s3 L l3 (by have := HLL.out; omega)
          obtain ⟨o3, c3', hs3⟩ := l3.form
          subst hs3
          have HLI3 := Lib.hid hli
          have C3 := Lib.hid (stepR C2.out c3)
          clear hli l3 c3
          go_wp2_with fail
          refine (HLI3.out).mono ?_; rintro e u4 ⟨⟨s4, rfl, l4⟩, c4⟩
          have C4 := Lib.hid (stepR C3.out c4)
          have hsm := Same_val u4 _ s4 L L (LA.out.below C4.out (Nat.le_refl _)) l4 (by have := HLL.out; omega)
          rw [decide_eq_true rfl] at hsm
          obtain ⟨o4, c4', hs4⟩ := l4.form
          subst hs4
          have HSM := Lib.hid hsm
          clear hsm l4 c4
          go_wp2_with fail
          refine (HSM.out).mono ?_; rintro e u5 ⟨rfl, c5⟩
          have C5 := Lib.hid (stepR C4.out c5)
          clear c5
          go_wp2_with fail
          refine (fixed_val _).mono ?_; rintro e u6 ⟨rfl, c6⟩
          go_wp2_with fail
          go_ret
          exact ⟨rfl, stepR BWA.out (stepR C5.out c6)⟩
    · have hkn : ¬ (s : Int) < (n : Int) := by omega
      have hA0 := HP.out
      have hB0 := HB.out
      have hs0 := lt_of_rowR N0.out
      have n2 := (MPr.out.block w.heap.size (by have := B1.out.size; have := lt_of_rowR N1.out; omega) (by omega) (by omega)).trans N1.out
      have bw := B1.out.trans (MPr.out.below (B := w.heap.size) (by omega) (by omega) B1.out.size)
      obtain ⟨e0, e1, e2, e3⟩ : wr.cell? ⟨w.heap.size, 0, none⟩ = some (.int .i64 k) ∧ wr.cell? ⟨w.heap.size, 1, none⟩ = some (.string i) ∧ wr.cell? ⟨w.heap.size, 2, none⟩ = some (.string v) ∧ wr.cell? ⟨w.heap.size, 3, none⟩ = some (.float .f64 x) := ⟨(cell_of_row _ _ 0 _ _ _ n2).trans rfl, (cell_of_row _ _ 1 _ _ _ n2).trans rfl, (cell_of_row _ _ 2 _ _ _ n2).trans rfl, (cell_of_row _ _ 3 _ _ _ n2).trans rfl⟩
      have N2 := Lib.hid n2
      have BW := Lib.hid bw
      clear n2 bw hA0 hB0 hs0
      go_wp2_with fail
      refine (HCUT.out _).mono ?_; rintro e w5 ⟨rfl, b5⟩
      have pl5 := PLr.out.below b5
      have n5 := (b5.block _ (lt_of_rowR N2.out)).trans N2.out
      have bw5 := stepR BW.out b5
      have ONE5 : Hid ((#[.int .i64 k', .string i', .string v', .float .f64 x'] : Array Value).all (·.oneCell') = true) := Lib.hid (by simp [Value.oneCell'])
      obtain ⟨W6, hW6⟩ : ∃ W, W = w5.setRow w.heap.size #[.int .i64 k', .string i', .string v', .float .f64 x'] := ⟨_, rfl⟩
      have hA0 := HP.out
      have hB0 := HB.out
      have hs0 := lt_of_rowR N0.out
      have n6 := setRow_heap w5 w.heap.size _ #[.int .i64 k', .string i', .string v', .float .f64 x'] _ _ n5
      have pl6 : PL w5 p b m now q f → PL (w5.setRow w.heap.size #[.int .i64 k', .string i', .string v', .float .f64 x']) p b m now q f := fun h => h.keep (setRow_other _ _ _ _ (by omega)) (setRow_other _ _ _ _ (by omega))
      have pl6 := pl6 pl5
      have bw6 := below_srow bw5 (show w.heap.size ≤ w.heap.size by omega) #[.int .i64 k', .string i', .string v', .float .f64 x']
      rw [← hW6] at n6 pl6 bw6
      have N5 := Lib.hid n5
      have N6 := Lib.hid n6
      have PL6 := Lib.hid pl6
      have BW6 := Lib.hid bw6
      have HW6 := Lib.hid hW6
      clear b5 pl5 n5 bw5 n6 pl6 bw6 hW6 hA0 hB0 hs0 e0 e1 e2 e3
      go_wp2_with (refine wpList_store_row rfl 32 _ _ rfl w.heap.size #[.int .i64 k', .string i', .string v', .float .f64 x'] rfl rfl _ _ N5.out (by kernel_rfl) rfl ONE5.out ?_)
      rw [← HW6.out]
      clear HW6 N5 ONE5
      obtain ⟨L, hL, hll⟩ := PL6.out.ses
      have hm6 : m ≤ 1000000 := by have := HM.out; omega
      have hse := sess_is W6 p b m now q f L PL6.out hm6 hL
      have HSE := Lib.hid hse
      have HL := Lib.hid hL
      have HLL := Lib.hid hll
      clear hse hL hll
      go_wp2_with fail
      refine (HSE.out).mono ?_; rintro e w7 ⟨⟨u7, rfl, l7⟩, b7⟩
      have hli := Lives_val w7 u7 L l7 (by have := HLL.out; omega)
      have HLI := Lib.hid hli
      obtain ⟨o7, c7, hu7⟩ := l7.form
      have B7 := Lib.hid b7
      clear hli l7 b7
      subst hu7
      go_wp2_with fail
      refine (HLI.out).mono ?_; rintro e w8 ⟨⟨u8, rfl, l8⟩, b8⟩
      have B8 := Lib.hid (stepR B7.out b8)
      have L8 := Lib.hid l8
      obtain ⟨e0, e1, e2, e3⟩ : w8.cell? ⟨w.heap.size, 0, none⟩ = some (.int .i64 k') ∧ w8.cell? ⟨w.heap.size, 1, none⟩ = some (.string i') ∧ w8.cell? ⟨w.heap.size, 2, none⟩ = some (.string v') ∧ w8.cell? ⟨w.heap.size, 3, none⟩ = some (.float .f64 x') := by
        have n8 := ((stepR B7.out b8).block _ (lt_of_rowR N6.out)).trans N6.out
        exact ⟨(cell_of_row _ _ 0 _ _ _ n8).trans rfl, (cell_of_row _ _ 1 _ _ _ n8).trans rfl, (cell_of_row _ _ 2 _ _ _ n8).trans rfl, (cell_of_row _ _ 3 _ _ _ n8).trans rfl⟩
      have pl8 := PL6.out.below (stepR B7.out b8)
      have N8 := Lib.hid (((stepR B7.out b8).block _ (lt_of_rowR N6.out)).trans N6.out)
      have BW8 := Lib.hid (stepR BW6.out (stepR B7.out b8))
      have PL8 := Lib.hid pl8
      obtain ⟨oL, cL, hu8⟩ := l8.form
      subst hu8
      clear l8 b8 pl8
      have dd := Do_val w8 p b m now q f ⟨k', i', v', x'⟩ L PL8.out HRC.out (by have := HM.out; omega) HL.out
      have hcs := err_cases now q f L.length ⟨k', i', v', x'⟩
      have hva := fun W => Valid_val ⟨k', i', v', x'⟩ W HRC.out
      have hch := fun W => Changes_val ⟨k', i', v', x'⟩ W
      obtain ⟨ve, hve⟩ : ∃ e, e = validE ⟨k', i', v', x'⟩ := ⟨_, rfl⟩
      obtain ⟨f', hf'⟩ : ∃ g, g = doF now q f L.length ⟨k', i', v', x'⟩ := ⟨_, rfl⟩
      obtain ⟨y, hy⟩ : ∃ y, y = doR now q f L.length ⟨k', i', v', x'⟩ := ⟨_, rfl⟩
      obtain ⟨cg, hcg⟩ : ∃ c, c = chg k' := ⟨_, rfl⟩
      simp only [← hve] at hva hcs
      rw [← hf', ← hy] at dd hcs
      simp only [← hcg] at hch hcs
      clear hve hf' hy hcg
      obtain ⟨ye, yv, yd⟩ := y
      simp only [Rq.row, Rp.row] at dd hva hch
      have DD := Lib.hid dd
      have VA := Lib.hid hva
      have CH := Lib.hid hch
      clear dd hva hch
      rcases hcs with ⟨hne, hy, hf⟩ | ⟨hve, e, he, hy, hf⟩ | ⟨hve, hye, hcg⟩ | ⟨hve, hye, hcg, hf⟩
      · obtain ⟨rfl, rfl, rfl⟩ : ye = ve ∧ yv = ⟨#[]⟩ ∧ yd = 0 := by injection hy with a b c; exact ⟨a, b, c⟩
        subst hf
        have h1 : (ye != 0) = true := bne_iff_ne.2 hne
        have h2 : (ye == 0) = false := beq_eq_false_iff_ne.2 hne
        have h3 : (ye = 0) = False := eq_false hne
        clear hne hy
        go_wp2_with fail
        refine (DD.out).mono ?_; rintro e w9 ⟨rfl, pl9, mp9⟩
        have hA0 := HP.out
        have hB0 := HB.out
        have hs0 := lt_of_rowR N0.out
        have lts := pl9.lts
        have n9 := (mp9.block _ (lt_of_rowR N8.out) (by omega) (by omega)).trans N8.out
        have bA := (Below.refl w9.heap.size w9).alloc (Nat.le_refl _) (.cells #[.int .i64 ye, .string ⟨#[]⟩, .int .u64 0] 41)
        have nA := heap_alloc_new w9 (.cells #[.int .i64 ye, .string ⟨#[]⟩, .int .u64 0] 41)
        obtain ⟨A, hA⟩ : ∃ A, A = w9.heap.size := ⟨_, rfl⟩
        obtain ⟨WA, hWA⟩ : ∃ W, W = w9.alloc (.cells #[.int .i64 ye, .string ⟨#[]⟩, .int .u64 0] 41) := ⟨_, rfl⟩
        rw [← hWA] at nA bA
        rw [← hA] at nA
        have PLA := Lib.hid (pl9.below bA)
        have NRQ := Lib.hid ((bA.block _ (lt_of_rowR n9)).trans n9)
        have NRP := Lib.hid nA
        have mpA := mp9.trans (Mp.of_below (p := p) (b := b) bA)
        have LA : Hid (LR 3 Go.Proofs.Ytmbidannodelfaa.G.encS WA (.slice oL L.length cL) L) := Lib.hid (lr_mp L8.out PL8.out mpA)
        have BWA : Hid (Below w.heap.size w WA) := Lib.hid (BW8.out.trans (mpA.below (by omega) (by omega) BW8.out.size))
        have HA := Lib.hid hA
        have HWA := Lib.hid hWA
        clear pl9 mp9 hA0 hB0 hs0 lts n9 bA nA mpA hA hWA e0 e1 e2 e3
        go_wp2_with fail
        rw [← HWA.out, ← HA.out]
        clear HA HWA
        have r0 := cell_regrown ((cell_of_row _ _ 0 _ _ _ NRQ.out).trans (show _ = some (.int .i64 k') from rfl))
        have r1 := cell_regrown ((cell_of_row _ _ 1 _ _ _ NRQ.out).trans (show _ = some (.string i') from rfl))
        have r2 := cell_regrown ((cell_of_row _ _ 2 _ _ _ NRQ.out).trans (show _ = some (.string v') from rfl))
        have r3 := cell_regrown ((cell_of_row _ _ 3 _ _ _ NRQ.out).trans (show _ = some (.float .f64 x') from rfl))
        have z0 := cell_regrown ((cell_of_row _ _ 0 _ _ _ NRP.out).trans (show _ = some (.int .i64 ye) from rfl))
        have z1 := cell_regrown ((cell_of_row _ _ 1 _ _ _ NRP.out).trans (show _ = some (.string ⟨#[]⟩) from rfl))
        have z2 := cell_regrown ((cell_of_row _ _ 2 _ _ _ NRP.out).trans (show _ = some (.int .u64 0) from rfl))
        refine Loose.wp_region_quiet_fast (by kernel_rfl) (by kernel_rfl) ?_
        (try simp only [List.append_eq, List.cons_append, List.nil_append])
        repeat (go_big_quiet_step (fail))
        go_big_quiet_step ((go_at_call 21; exact Calls.regrown_of (VA.out _)))
        repeat (go_big_quiet_step (fail))
        go_big_quiet_step ((go_at_call 21; exact Calls.regrown_of (VA.out _)))
        repeat (go_big_quiet_step (fail))
        refine wpQuiet_nil ?_
        intro _ hw'
        obtain ⟨⟨dq, osq⟩, hw''⟩ := hw'
        subst hw''
        clear z0 z1 z2
        clear r0 r1 r2 r3
        have bQ := below_regrown WA dq osq
        obtain ⟨V, hV⟩ : ∃ V, V = Go.Sort.grow (Go.redrawn WA dq) osq := ⟨_, rfl⟩
        rw [← hV] at bQ
        rw [← hV]
        have BQ := Lib.hid bQ
        have nq := (bQ.block _ (lt_of_rowR NRQ.out)).trans NRQ.out
        have np := (bQ.block _ (lt_of_rowR NRP.out)).trans NRP.out
        have NQ := Lib.hid nq
        have NP := Lib.hid np
        obtain ⟨z0, z1, z2⟩ : V.cell? ⟨A, 0, none⟩ = some (.int .i64 ye) ∧ V.cell? ⟨A, 1, none⟩ = some (.string ⟨#[]⟩) ∧ V.cell? ⟨A, 2, none⟩ = some (.int .u64 0) := ⟨(cell_of_row _ _ 0 _ _ _ np).trans rfl, (cell_of_row _ _ 1 _ _ _ np).trans rfl, (cell_of_row _ _ 2 _ _ _ np).trans rfl⟩
        obtain ⟨r0, r1, r2, r3⟩ : V.cell? ⟨w.heap.size, 0, none⟩ = some (.int .i64 k') ∧ V.cell? ⟨w.heap.size, 1, none⟩ = some (.string i') ∧ V.cell? ⟨w.heap.size, 2, none⟩ = some (.string v') ∧ V.cell? ⟨w.heap.size, 3, none⟩ = some (.float .f64 x') := ⟨(cell_of_row _ _ 0 _ _ _ nq).trans rfl, (cell_of_row _ _ 1 _ _ _ nq).trans rfl, (cell_of_row _ _ 2 _ _ _ nq).trans rfl, (cell_of_row _ _ 3 _ _ _ nq).trans rfl⟩
        clear hV bQ nq np
        go_wp2_with fail
        refine (VA.out _).mono ?_; rintro e u1 ⟨rfl, c1⟩
        have n1 := (c1.block _ (lt_of_rowR NP.out)).trans NP.out
        have n2 := (c1.block _ (lt_of_rowR NQ.out)).trans NQ.out
        obtain ⟨z0', z1', z2'⟩ : u1.cell? ⟨A, 0, none⟩ = some (.int .i64 ye) ∧ u1.cell? ⟨A, 1, none⟩ = some (.string ⟨#[]⟩) ∧ u1.cell? ⟨A, 2, none⟩ = some (.int .u64 0) := ⟨(cell_of_row _ _ 0 _ _ _ n1).trans rfl, (cell_of_row _ _ 1 _ _ _ n1).trans rfl, (cell_of_row _ _ 2 _ _ _ n1).trans rfl⟩
        obtain ⟨r0', r1', r2', r3'⟩ : u1.cell? ⟨w.heap.size, 0, none⟩ = some (.int .i64 k') ∧ u1.cell? ⟨w.heap.size, 1, none⟩ = some (.string i') ∧ u1.cell? ⟨w.heap.size, 2, none⟩ = some (.string v') ∧ u1.cell? ⟨w.heap.size, 3, none⟩ = some (.float .f64 x') := ⟨(cell_of_row _ _ 0 _ _ _ n2).trans rfl, (cell_of_row _ _ 1 _ _ _ n2).trans rfl, (cell_of_row _ _ 2 _ _ _ n2).trans rfl, (cell_of_row _ _ 3 _ _ _ n2).trans rfl⟩
        have C1 := Lib.hid (stepR BQ.out c1)
        clear c1 n1 n2 z0 z1 z2 r0 r1 r2 r3
        go_wp2_with fail
        have C2 := C1
        clear z0' z1' z2' r0' r1' r2' r3'
        obtain ⟨u2, hu2⟩ : ∃ u, u = u1 := ⟨_, rfl⟩
        rw [← hu2] at C2
        rw [← hu2]
        clear hu2
        refine (sess_is u2 p b (m + 1) now q _ L (PLA.out.below C2.out) (by have := HM.out; omega) HL.out).mono ?_; rintro e u3 ⟨⟨s3, rfl, l3⟩, c3⟩
        have hli := Lives_val u3 s3 L l3 (by have := HLL.out; omega)
        obtain ⟨o3, c3', hs3⟩ := l3.form
        subst hs3
        have HLI3 := Lib.hid hli
        have C3 := Lib.hid (stepR C2.out c3)
        clear hli l3 c3
        go_wp2_with fail
        refine (HLI3.out).mono ?_; rintro e u4 ⟨⟨s4, rfl, l4⟩, c4⟩
        have C4 := Lib.hid (stepR C3.out c4)
        have hsm := Same_val u4 _ s4 L L (LA.out.below C4.out (Nat.le_refl _)) l4 (by have := HLL.out; omega)
        rw [decide_eq_true rfl] at hsm
        obtain ⟨o4, c4', hs4⟩ := l4.form
        subst hs4
        have HSM := Lib.hid hsm
        clear hsm l4 c4
        go_wp2_with fail
        refine (HSM.out).mono ?_; rintro e u5 ⟨rfl, c5⟩
        have C5 := Lib.hid (stepR C4.out c5)
        clear c5
        go_wp2_with fail
        refine (fixed_val _).mono ?_; rintro e u6 ⟨rfl, c6⟩
        go_wp2_with fail
        go_ret
        exact ⟨rfl, stepR BWA.out (stepR C5.out c6)⟩
      · obtain ⟨rfl, rfl, rfl⟩ : ye = e ∧ yv = ⟨#[]⟩ ∧ yd = 0 := by injection hy with a b c; exact ⟨a, b, c⟩
        subst hf
        subst hve
        have hne : ye ≠ 0 := by rcases he with rfl | rfl | rfl <;> decide
        have hn1 : ye ≠ 1 := by rcases he with rfl | rfl | rfl <;> decide
        have h1 : (ye != 0) = true := bne_iff_ne.2 hne
        have h2 : (ye == 0) = false := beq_eq_false_iff_ne.2 hne
        have h3 : (ye = 0) = False := eq_false hne
        have h4 : (ye == 1) = false := beq_eq_false_iff_ne.2 hn1
        have h5 : (ye = 1) = False := eq_false hn1
        clear he hy hne hn1
        go_wp2_with fail
        refine (DD.out).mono ?_; rintro e w9 ⟨rfl, pl9, mp9⟩
        have hA0 := HP.out
        have hB0 := HB.out
        have hs0 := lt_of_rowR N0.out
        have lts := pl9.lts
        have n9 := (mp9.block _ (lt_of_rowR N8.out) (by omega) (by omega)).trans N8.out
        have bA := (Below.refl w9.heap.size w9).alloc (Nat.le_refl _) (.cells #[.int .i64 ye, .string ⟨#[]⟩, .int .u64 0] 41)
        have nA := heap_alloc_new w9 (.cells #[.int .i64 ye, .string ⟨#[]⟩, .int .u64 0] 41)
        obtain ⟨A, hA⟩ : ∃ A, A = w9.heap.size := ⟨_, rfl⟩
        obtain ⟨WA, hWA⟩ : ∃ W, W = w9.alloc (.cells #[.int .i64 ye, .string ⟨#[]⟩, .int .u64 0] 41) := ⟨_, rfl⟩
        rw [← hWA] at nA bA
        rw [← hA] at nA
        have PLA := Lib.hid (pl9.below bA)
        have NRQ := Lib.hid ((bA.block _ (lt_of_rowR n9)).trans n9)
        have NRP := Lib.hid nA
        have mpA := mp9.trans (Mp.of_below (p := p) (b := b) bA)
        have LA : Hid (LR 3 Go.Proofs.Ytmbidannodelfaa.G.encS WA (.slice oL L.length cL) L) := Lib.hid (lr_mp L8.out PL8.out mpA)
        have BWA : Hid (Below w.heap.size w WA) := Lib.hid (BW8.out.trans (mpA.below (by omega) (by omega) BW8.out.size))
        have HA := Lib.hid hA
        have HWA := Lib.hid hWA
        clear pl9 mp9 hA0 hB0 hs0 lts n9 bA nA mpA hA hWA e0 e1 e2 e3
        go_wp2_with fail
        rw [← HWA.out, ← HA.out]
        clear HA HWA
        have r0 := cell_regrown ((cell_of_row _ _ 0 _ _ _ NRQ.out).trans (show _ = some (.int .i64 k') from rfl))
        have r1 := cell_regrown ((cell_of_row _ _ 1 _ _ _ NRQ.out).trans (show _ = some (.string i') from rfl))
        have r2 := cell_regrown ((cell_of_row _ _ 2 _ _ _ NRQ.out).trans (show _ = some (.string v') from rfl))
        have r3 := cell_regrown ((cell_of_row _ _ 3 _ _ _ NRQ.out).trans (show _ = some (.float .f64 x') from rfl))
        refine Loose.wp_region_quiet_fast (by kernel_rfl) (by kernel_rfl) ?_
        (try simp only [List.append_eq, List.cons_append, List.nil_append])
        repeat (go_big_quiet_step (fail))
        go_big_quiet_step ((go_at_call 21; exact Calls.regrown_of (VA.out _)))
        repeat (go_big_quiet_step (fail))
        refine wpQuiet_nil ?_
        intro _ hw'
        obtain ⟨⟨dq, osq⟩, hw''⟩ := hw'
        subst hw''
        clear r0 r1 r2 r3
        have bQ := below_regrown WA dq osq
        obtain ⟨V, hV⟩ : ∃ V, V = Go.Sort.grow (Go.redrawn WA dq) osq := ⟨_, rfl⟩
        rw [← hV] at bQ
        rw [← hV]
        have BQ := Lib.hid bQ
        have nq := (bQ.block _ (lt_of_rowR NRQ.out)).trans NRQ.out
        have np := (bQ.block _ (lt_of_rowR NRP.out)).trans NRP.out
        have NQ := Lib.hid nq
        have NP := Lib.hid np
        obtain ⟨z0, z1, z2⟩ : V.cell? ⟨A, 0, none⟩ = some (.int .i64 ye) ∧ V.cell? ⟨A, 1, none⟩ = some (.string ⟨#[]⟩) ∧ V.cell? ⟨A, 2, none⟩ = some (.int .u64 0) := ⟨(cell_of_row _ _ 0 _ _ _ np).trans rfl, (cell_of_row _ _ 1 _ _ _ np).trans rfl, (cell_of_row _ _ 2 _ _ _ np).trans rfl⟩
        obtain ⟨r0, r1, r2, r3⟩ : V.cell? ⟨w.heap.size, 0, none⟩ = some (.int .i64 k') ∧ V.cell? ⟨w.heap.size, 1, none⟩ = some (.string i') ∧ V.cell? ⟨w.heap.size, 2, none⟩ = some (.string v') ∧ V.cell? ⟨w.heap.size, 3, none⟩ = some (.float .f64 x') := ⟨(cell_of_row _ _ 0 _ _ _ nq).trans rfl, (cell_of_row _ _ 1 _ _ _ nq).trans rfl, (cell_of_row _ _ 2 _ _ _ nq).trans rfl, (cell_of_row _ _ 3 _ _ _ nq).trans rfl⟩
        clear hV bQ nq np
        go_wp2_with fail
        refine (VA.out _).mono ?_; rintro e u1 ⟨rfl, c1⟩
        have n1 := (c1.block _ (lt_of_rowR NP.out)).trans NP.out
        have n2 := (c1.block _ (lt_of_rowR NQ.out)).trans NQ.out
        obtain ⟨z0', z1', z2'⟩ : u1.cell? ⟨A, 0, none⟩ = some (.int .i64 ye) ∧ u1.cell? ⟨A, 1, none⟩ = some (.string ⟨#[]⟩) ∧ u1.cell? ⟨A, 2, none⟩ = some (.int .u64 0) := ⟨(cell_of_row _ _ 0 _ _ _ n1).trans rfl, (cell_of_row _ _ 1 _ _ _ n1).trans rfl, (cell_of_row _ _ 2 _ _ _ n1).trans rfl⟩
        obtain ⟨r0', r1', r2', r3'⟩ : u1.cell? ⟨w.heap.size, 0, none⟩ = some (.int .i64 k') ∧ u1.cell? ⟨w.heap.size, 1, none⟩ = some (.string i') ∧ u1.cell? ⟨w.heap.size, 2, none⟩ = some (.string v') ∧ u1.cell? ⟨w.heap.size, 3, none⟩ = some (.float .f64 x') := ⟨(cell_of_row _ _ 0 _ _ _ n2).trans rfl, (cell_of_row _ _ 1 _ _ _ n2).trans rfl, (cell_of_row _ _ 2 _ _ _ n2).trans rfl, (cell_of_row _ _ 3 _ _ _ n2).trans rfl⟩
        have C1 := Lib.hid (stepR BQ.out c1)
        clear c1 n1 n2 z0 z1 z2 r0 r1 r2 r3
        go_wp2_with fail
        have C2 := C1
        clear z0' z1' z2' r0' r1' r2' r3'
        obtain ⟨u2, hu2⟩ : ∃ u, u = u1 := ⟨_, rfl⟩
        rw [← hu2] at C2
        rw [← hu2]
        clear hu2
        refine (sess_is u2 p b (m + 1) now q _ L (PLA.out.below C2.out) (by have := HM.out; omega) HL.out).mono ?_; rintro e u3 ⟨⟨s3, rfl, l3⟩, c3⟩
        have hli := Lives_val u3 s3 L l3 (by have := HLL.out; omega)
        obtain ⟨o3, c3', hs3⟩ := l3.form
        subst hs3
        have HLI3 := Lib.hid hli
        have C3 := Lib.hid (stepR C2.out c3)
        clear hli l3 c3
        go_wp2_with fail
        refine (HLI3.out).mono ?_; rintro e u4 ⟨⟨s4, rfl, l4⟩, c4⟩
        have C4 := Lib.hid (stepR C3.out c4)
        have hsm := Same_val u4 _ s4 L L (LA.out.below C4.out (Nat.le_refl _)) l4 (by have := HLL.out; omega)
        rw [decide_eq_true rfl] at hsm
        obtain ⟨o4, c4', hs4⟩ := l4.form
        subst hs4
        have HSM := Lib.hid hsm
        clear hsm l4 c4
        go_wp2_with fail
        refine (HSM.out).mono ?_; rintro e u5 ⟨rfl, c5⟩
        have C5 := Lib.hid (stepR C4.out c5)
        clear c5
        go_wp2_with fail
        refine (fixed_val _).mono ?_; rintro e u6 ⟨rfl, c6⟩
        go_wp2_with fail
        go_ret
        exact ⟨rfl, stepR BWA.out (stepR C5.out c6)⟩
      · simp only at hye
        subst hye
        subst hve
        subst hcg
        go_wp2_with fail
        refine (DD.out).mono ?_; rintro e w9 ⟨rfl, pl9, mp9⟩
        have hA0 := HP.out
        have hB0 := HB.out
        have hs0 := lt_of_rowR N0.out
        have lts := pl9.lts
        have n9 := (mp9.block _ (lt_of_rowR N8.out) (by omega) (by omega)).trans N8.out
        have bA := (Below.refl w9.heap.size w9).alloc (Nat.le_refl _) (.cells #[.int .i64 0, .string yv, .int .u64 (yd : Int)] 41)
        have nA := heap_alloc_new w9 (.cells #[.int .i64 0, .string yv, .int .u64 (yd : Int)] 41)
        obtain ⟨A, hA⟩ : ∃ A, A = w9.heap.size := ⟨_, rfl⟩
        obtain ⟨WA, hWA⟩ : ∃ W, W = w9.alloc (.cells #[.int .i64 0, .string yv, .int .u64 (yd : Int)] 41) := ⟨_, rfl⟩
        rw [← hWA] at nA bA
        rw [← hA] at nA
        have PLA := Lib.hid (pl9.below bA)
        have NRQ := Lib.hid ((bA.block _ (lt_of_rowR n9)).trans n9)
        have NRP := Lib.hid nA
        have mpA := mp9.trans (Mp.of_below (p := p) (b := b) bA)
        have LA : Hid (LR 3 Go.Proofs.Ytmbidannodelfaa.G.encS WA (.slice oL L.length cL) L) := Lib.hid (lr_mp L8.out PL8.out mpA)
        have BWA : Hid (Below w.heap.size w WA) := Lib.hid (BW8.out.trans (mpA.below (by omega) (by omega) BW8.out.size))
        have HA := Lib.hid hA
        have HWA := Lib.hid hWA
        clear pl9 mp9 hA0 hB0 hs0 lts n9 bA nA mpA hA hWA e0 e1 e2 e3
        go_wp2_with fail
        rw [← HWA.out, ← HA.out]
        clear HA HWA
        have r0 := cell_regrown ((cell_of_row _ _ 0 _ _ _ NRQ.out).trans (show _ = some (.int .i64 k') from rfl))
        have r1 := cell_regrown ((cell_of_row _ _ 1 _ _ _ NRQ.out).trans (show _ = some (.string i') from rfl))
        have r2 := cell_regrown ((cell_of_row _ _ 2 _ _ _ NRQ.out).trans (show _ = some (.string v') from rfl))
        have r3 := cell_regrown ((cell_of_row _ _ 3 _ _ _ NRQ.out).trans (show _ = some (.float .f64 x') from rfl))
        refine Loose.wp_region_quiet_fast (by kernel_rfl) (by kernel_rfl) ?_
        (try simp only [List.append_eq, List.cons_append, List.nil_append])
        repeat (go_big_quiet_step (fail))
        go_big_quiet_step ((go_at_call 21; exact Calls.regrown_of (VA.out _)))
        repeat (go_big_quiet_step (fail))
        refine wpQuiet_nil ?_
        intro _ hw'
        obtain ⟨⟨dq, osq⟩, hw''⟩ := hw'
        subst hw''
        clear r0 r1 r2 r3
        have bQ := below_regrown WA dq osq
        obtain ⟨V, hV⟩ : ∃ V, V = Go.Sort.grow (Go.redrawn WA dq) osq := ⟨_, rfl⟩
        rw [← hV] at bQ
        rw [← hV]
        have BQ := Lib.hid bQ
        have nq := (bQ.block _ (lt_of_rowR NRQ.out)).trans NRQ.out
        have np := (bQ.block _ (lt_of_rowR NRP.out)).trans NRP.out
        have NQ := Lib.hid nq
        have NP := Lib.hid np
        obtain ⟨z0, z1, z2⟩ : V.cell? ⟨A, 0, none⟩ = some (.int .i64 0) ∧ V.cell? ⟨A, 1, none⟩ = some (.string yv) ∧ V.cell? ⟨A, 2, none⟩ = some (.int .u64 (yd : Int)) := ⟨(cell_of_row _ _ 0 _ _ _ np).trans rfl, (cell_of_row _ _ 1 _ _ _ np).trans rfl, (cell_of_row _ _ 2 _ _ _ np).trans rfl⟩
        obtain ⟨r0, r1, r2, r3⟩ : V.cell? ⟨w.heap.size, 0, none⟩ = some (.int .i64 k') ∧ V.cell? ⟨w.heap.size, 1, none⟩ = some (.string i') ∧ V.cell? ⟨w.heap.size, 2, none⟩ = some (.string v') ∧ V.cell? ⟨w.heap.size, 3, none⟩ = some (.float .f64 x') := ⟨(cell_of_row _ _ 0 _ _ _ nq).trans rfl, (cell_of_row _ _ 1 _ _ _ nq).trans rfl, (cell_of_row _ _ 2 _ _ _ nq).trans rfl, (cell_of_row _ _ 3 _ _ _ nq).trans rfl⟩
        clear hV bQ nq np
        go_wp2_with fail
        refine (VA.out _).mono ?_; rintro e u1 ⟨rfl, c1⟩
        have n1 := (c1.block _ (lt_of_rowR NP.out)).trans NP.out
        have n2 := (c1.block _ (lt_of_rowR NQ.out)).trans NQ.out
        obtain ⟨z0', z1', z2'⟩ : u1.cell? ⟨A, 0, none⟩ = some (.int .i64 0) ∧ u1.cell? ⟨A, 1, none⟩ = some (.string yv) ∧ u1.cell? ⟨A, 2, none⟩ = some (.int .u64 (yd : Int)) := ⟨(cell_of_row _ _ 0 _ _ _ n1).trans rfl, (cell_of_row _ _ 1 _ _ _ n1).trans rfl, (cell_of_row _ _ 2 _ _ _ n1).trans rfl⟩
        obtain ⟨r0', r1', r2', r3'⟩ : u1.cell? ⟨w.heap.size, 0, none⟩ = some (.int .i64 k') ∧ u1.cell? ⟨w.heap.size, 1, none⟩ = some (.string i') ∧ u1.cell? ⟨w.heap.size, 2, none⟩ = some (.string v') ∧ u1.cell? ⟨w.heap.size, 3, none⟩ = some (.float .f64 x') := ⟨(cell_of_row _ _ 0 _ _ _ n2).trans rfl, (cell_of_row _ _ 1 _ _ _ n2).trans rfl, (cell_of_row _ _ 2 _ _ _ n2).trans rfl, (cell_of_row _ _ 3 _ _ _ n2).trans rfl⟩
        have C1 := Lib.hid (stepR BQ.out c1)
        clear c1 n1 n2 z0 z1 z2 r0 r1 r2 r3
        go_wp2_with fail
        refine (CH.out _).mono ?_; rintro e u2 ⟨rfl, c2⟩
        have C2 := Lib.hid (stepR C1.out c2)
        clear c2 z0' z1' z2' r0' r1' r2' r3'
        go_wp2_with fail
        have C5 := C2
        refine (fixed_val _).mono ?_; rintro e u6 ⟨rfl, c6⟩
        go_wp2_with fail
        go_ret
        exact ⟨rfl, stepR BWA.out (stepR C5.out c6)⟩
      · simp only at hye
        subst hye
        subst hve
        subst hcg
        subst hf
        go_wp2_with fail
        refine (DD.out).mono ?_; rintro e w9 ⟨rfl, pl9, mp9⟩
        have hA0 := HP.out
        have hB0 := HB.out
        have hs0 := lt_of_rowR N0.out
        have lts := pl9.lts
        have n9 := (mp9.block _ (lt_of_rowR N8.out) (by omega) (by omega)).trans N8.out
        have bA := (Below.refl w9.heap.size w9).alloc (Nat.le_refl _) (.cells #[.int .i64 0, .string yv, .int .u64 (yd : Int)] 41)
        have nA := heap_alloc_new w9 (.cells #[.int .i64 0, .string yv, .int .u64 (yd : Int)] 41)
        obtain ⟨A, hA⟩ : ∃ A, A = w9.heap.size := ⟨_, rfl⟩
        obtain ⟨WA, hWA⟩ : ∃ W, W = w9.alloc (.cells #[.int .i64 0, .string yv, .int .u64 (yd : Int)] 41) := ⟨_, rfl⟩
        rw [← hWA] at nA bA
        rw [← hA] at nA
        have PLA := Lib.hid (pl9.below bA)
        have NRQ := Lib.hid ((bA.block _ (lt_of_rowR n9)).trans n9)
        have NRP := Lib.hid nA
        have mpA := mp9.trans (Mp.of_below (p := p) (b := b) bA)
        have LA : Hid (LR 3 Go.Proofs.Ytmbidannodelfaa.G.encS WA (.slice oL L.length cL) L) := Lib.hid (lr_mp L8.out PL8.out mpA)
        have BWA : Hid (Below w.heap.size w WA) := Lib.hid (BW8.out.trans (mpA.below (by omega) (by omega) BW8.out.size))
        have HA := Lib.hid hA
        have HWA := Lib.hid hWA
        clear pl9 mp9 hA0 hB0 hs0 lts n9 bA nA mpA hA hWA e0 e1 e2 e3
        go_wp2_with fail
        rw [← HWA.out, ← HA.out]
        clear HA HWA
        have r0 := cell_regrown ((cell_of_row _ _ 0 _ _ _ NRQ.out).trans (show _ = some (.int .i64 k') from rfl))
        have r1 := cell_regrown ((cell_of_row _ _ 1 _ _ _ NRQ.out).trans (show _ = some (.string i') from rfl))
        have r2 := cell_regrown ((cell_of_row _ _ 2 _ _ _ NRQ.out).trans (show _ = some (.string v') from rfl))
        have r3 := cell_regrown ((cell_of_row _ _ 3 _ _ _ NRQ.out).trans (show _ = some (.float .f64 x') from rfl))
        refine Loose.wp_region_quiet_fast (by kernel_rfl) (by kernel_rfl) ?_
        (try simp only [List.append_eq, List.cons_append, List.nil_append])
        repeat (go_big_quiet_step (fail))
        go_big_quiet_step ((go_at_call 21; exact Calls.regrown_of (VA.out _)))
        repeat (go_big_quiet_step (fail))
        refine wpQuiet_nil ?_
        intro _ hw'
        obtain ⟨⟨dq, osq⟩, hw''⟩ := hw'
        subst hw''
        clear r0 r1 r2 r3
        have bQ := below_regrown WA dq osq
        obtain ⟨V, hV⟩ : ∃ V, V = Go.Sort.grow (Go.redrawn WA dq) osq := ⟨_, rfl⟩
        rw [← hV] at bQ
        rw [← hV]
        have BQ := Lib.hid bQ
        have nq := (bQ.block _ (lt_of_rowR NRQ.out)).trans NRQ.out
        have np := (bQ.block _ (lt_of_rowR NRP.out)).trans NRP.out
        have NQ := Lib.hid nq
        have NP := Lib.hid np
        obtain ⟨z0, z1, z2⟩ : V.cell? ⟨A, 0, none⟩ = some (.int .i64 0) ∧ V.cell? ⟨A, 1, none⟩ = some (.string yv) ∧ V.cell? ⟨A, 2, none⟩ = some (.int .u64 (yd : Int)) := ⟨(cell_of_row _ _ 0 _ _ _ np).trans rfl, (cell_of_row _ _ 1 _ _ _ np).trans rfl, (cell_of_row _ _ 2 _ _ _ np).trans rfl⟩
        obtain ⟨r0, r1, r2, r3⟩ : V.cell? ⟨w.heap.size, 0, none⟩ = some (.int .i64 k') ∧ V.cell? ⟨w.heap.size, 1, none⟩ = some (.string i') ∧ V.cell? ⟨w.heap.size, 2, none⟩ = some (.string v') ∧ V.cell? ⟨w.heap.size, 3, none⟩ = some (.float .f64 x') := ⟨(cell_of_row _ _ 0 _ _ _ nq).trans rfl, (cell_of_row _ _ 1 _ _ _ nq).trans rfl, (cell_of_row _ _ 2 _ _ _ nq).trans rfl, (cell_of_row _ _ 3 _ _ _ nq).trans rfl⟩
        clear hV bQ nq np
        go_wp2_with fail
        refine (VA.out _).mono ?_; rintro e u1 ⟨rfl, c1⟩
        have n1 := (c1.block _ (lt_of_rowR NP.out)).trans NP.out
        have n2 := (c1.block _ (lt_of_rowR NQ.out)).trans NQ.out
        obtain ⟨z0', z1', z2'⟩ : u1.cell? ⟨A, 0, none⟩ = some (.int .i64 0) ∧ u1.cell? ⟨A, 1, none⟩ = some (.string yv) ∧ u1.cell? ⟨A, 2, none⟩ = some (.int .u64 (yd : Int)) := ⟨(cell_of_row _ _ 0 _ _ _ n1).trans rfl, (cell_of_row _ _ 1 _ _ _ n1).trans rfl, (cell_of_row _ _ 2 _ _ _ n1).trans rfl⟩
        obtain ⟨r0', r1', r2', r3'⟩ : u1.cell? ⟨w.heap.size, 0, none⟩ = some (.int .i64 k') ∧ u1.cell? ⟨w.heap.size, 1, none⟩ = some (.string i') ∧ u1.cell? ⟨w.heap.size, 2, none⟩ = some (.string v') ∧ u1.cell? ⟨w.heap.size, 3, none⟩ = some (.float .f64 x') := ⟨(cell_of_row _ _ 0 _ _ _ n2).trans rfl, (cell_of_row _ _ 1 _ _ _ n2).trans rfl, (cell_of_row _ _ 2 _ _ _ n2).trans rfl, (cell_of_row _ _ 3 _ _ _ n2).trans rfl⟩
        have C1 := Lib.hid (stepR BQ.out c1)
        clear c1 n1 n2 z0 z1 z2 r0 r1 r2 r3
        go_wp2_with fail
        refine (CH.out _).mono ?_; rintro e u2 ⟨rfl, c2⟩
        have C2 := Lib.hid (stepR C1.out c2)
        clear c2 z0' z1' z2' r0' r1' r2' r3'
        go_wp2_with fail
        refine (sess_is u2 p b (m + 1) now q _ L (PLA.out.below C2.out) (by have := HM.out; omega) HL.out).mono ?_; rintro e u3 ⟨⟨s3, rfl, l3⟩, c3⟩
        have hli := Lives_val u3 s3 L l3 (by have := HLL.out; omega)
        obtain ⟨o3, c3', hs3⟩ := l3.form
        subst hs3
        have HLI3 := Lib.hid hli
        have C3 := Lib.hid (stepR C2.out c3)
        clear hli l3 c3
        go_wp2_with fail
        refine (HLI3.out).mono ?_; rintro e u4 ⟨⟨s4, rfl, l4⟩, c4⟩
        have C4 := Lib.hid (stepR C3.out c4)
        have hsm := Same_val u4 _ s4 L L (LA.out.below C4.out (Nat.le_refl _)) l4 (by have := HLL.out; omega)
        rw [decide_eq_true rfl] at hsm
        obtain ⟨o4, c4', hs4⟩ := l4.form
        subst hs4
        have HSM := Lib.hid hsm
        clear hsm l4 c4
        go_wp2_with fail
        refine (HSM.out).mono ?_; rintro e u5 ⟨rfl, c5⟩
        have C5 := Lib.hid (stepR C4.out c5)
        clear c5
        go_wp2_with fail
        refine (fixed_val _).mono ?_; rintro e u6 ⟨rfl, c6⟩
        go_wp2_with fail
        go_ret
        exact ⟨rfl, stepR BWA.out (stepR C5.out c6)⟩
theorem PlainErrors_walk (a0 : Int) (v1 v2 : Value) (w : World) (w0 : (Lit.int .i64 a0).wf = true) (o1 : Row.Opn Try.prog w 23 v1) (o2 : Row.Opn Try.prog w 32 v2) :
    Calls Try.prog 4 #[.int .i64 a0, v1, v2] w fun e w' => e = .returned (.bool true) ∧ Below w.heap.size w w' := by
  obtain ⟨l, h1, h2, _⟩ := open_ops o1
  obtain ⟨r, rfl, hr⟩ := open_rq o2
  exact errors_main a0 l v1 r w h1 h2 hr
end Go.Proofs.Ytmbidannodelfaa.L
