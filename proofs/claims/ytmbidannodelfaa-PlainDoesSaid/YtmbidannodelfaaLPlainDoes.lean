/- PlainDoes: whatever the requests, the quota and the time, the law answers true. No condition. -/
import Derived.Test.YtmbidannodelfaaQh
import Derived.Test.YtmbidannodelfaaPo
import Derived.Test.YtmbidannodelfaaGTail
import Derived.Deep.RegionHeld
namespace Go.Proofs.Ytmbidannodelfaa.L
open Go.RowKit Go.Maps Go.Proofs.Ytmbidannodelfaa.G Go.Proofs.Ytmbidannodelfaa.WordPlain Go.Proofs.Ytmbidannodelfaa.Loose
set_option linter.unusedVariables false
set_option linter.unusedSimpArgs false

theorem PL.othero {w w' : World} {p b p' b' n now : Nat} {q : Int} {f : ByteArray → Option Ses} (h : PL w p' b' n now q f) (m : Mp p b w w') (h1 : p' ≠ p) (h2 : p' ≠ b) (h3 : b' ≠ p) (h4 : b' ≠ b) : PL w' p' b' n now q f :=
  h.keep (m.block _ h.lts.1 h1 h2) (m.block _ h.lts.2 h3 h4)
/-- both stores' blocks -/
structure Two (w w' : World) (p b p' b' : Nat) : Prop where
  os : w'.os = w.os
  tape : w'.tape = w.tape
  output : w'.output = w.output
  size : w.heap.size ≤ w'.heap.size
  block : ∀ i, i < w.heap.size → i ≠ p → i ≠ b → i ≠ p' → i ≠ b' → w'.heap[i]? = w.heap[i]?
theorem Two.refl (w : World) (p b p' b' : Nat) : Two w w p b p' b' := ⟨rfl, rfl, rfl, Nat.le_refl _, fun _ _ _ _ _ _ => rfl⟩
theorem Two.left {w w1 w2 : World} {p b p' b' : Nat} (h : Two w w1 p b p' b') (m : Mp p b w1 w2) : Two w w2 p b p' b' :=
  ⟨m.os.trans h.os, m.tape.trans h.tape, m.output.trans h.output, Nat.le_trans h.size m.size, fun i hi a c d e => (m.block i (Nat.lt_of_lt_of_le hi h.size) a c).trans (h.block i hi a c d e)⟩
theorem Two.right {w w1 w2 : World} {p b p' b' : Nat} (h : Two w w1 p b p' b') (m : Mp p' b' w1 w2) : Two w w2 p b p' b' :=
  ⟨m.os.trans h.os, m.tape.trans h.tape, m.output.trans h.output, Nat.le_trans h.size m.size, fun i hi a c d e => (m.block i (Nat.lt_of_lt_of_le hi h.size) d e).trans (h.block i hi a c d e)⟩
theorem Two.below {w w' : World} {p b p' b' B : Nat} (h : Two w w' p b p' b') (hp : B ≤ p) (hb : B ≤ b) (hp' : B ≤ p') (hb' : B ≤ b') (hB : B ≤ w.heap.size) : Below B w w' := ⟨h.os, h.tape, h.output, h.size, fun i hi => h.block i (by omega) (by omega) (by omega) (by omega) (by omega)⟩
theorem two_new (w1 w2 : World) (s : Nat) (hs : w1.heap.size = s + 2) (p b p' b' : Nat) (e1 : p = s + 1) (e2 : b = s) (e3 : p' = w1.heap.size + 1) (e4 : b' = w1.heap.size) : p' ≠ p ∧ p' ≠ b ∧ b' ≠ p ∧ b' ≠ b ∧ p ≠ p' ∧ p ≠ b' ∧ b ≠ p' ∧ b ≠ b' := by omega
theorem lr_mp {w w' : World} {p b n now : Nat} {q : Int} {f : ByteArray → Option Ses} {v : Value} {L : List Ses} (h : LR 3 Go.Proofs.Ytmbidannodelfaa.G.encS w v L) (pl : PL w p b n now q f) (m : Mp p b w w') : LR 3 Go.Proofs.Ytmbidannodelfaa.G.encS w' v L := by
  obtain ⟨oa, cap, h1, h2, h3⟩ := h
  refine ⟨oa, cap, h1, h2, fun i hi => ?_⟩
  obtain ⟨b', off, h4, h5⟩ := h3 i hi
  have h50 := h5 0 (.string L[i].id) rfl
  have hp : b' ≠ p := by
    rintro rfl
    have hr := cell_of_row w b' (off + i * 3 + 0) _ _ (0, 0) pl.cells
    rw [hr] at h50
    match hj : off + i * 3 + 0 with
    | 0 => rw [hj] at h50; cases h50
    | 1 => rw [hj] at h50; cases h50
    | 2 => rw [hj] at h50; cases h50
    | j + 3 => rw [hj] at h50; simp at h50
  have hb : b' ≠ b := by
    rintro rfl
    obtain ⟨D, ⟨es, c, hm, _⟩, _⟩ := pl.map
    simp [World.cell?, hm] at h50
  refine ⟨b', off, h4, fun j u hu => ?_⟩
  have h6 := h5 j u hu
  have hblk := m.block b' (lt_of_cellR h6) hp hb
  rw [World.cell?_of_block (a := ⟨b', off + i * 3 + j, none⟩) hblk]
  exact h6
theorem RPl.mp {w w' : World} {P now p b n now' : Nat} {q q' : Int} {L : List Ses} {f : ByteArray → Option Ses} (h : RPl w P now q L) (pl : PL w p b n now' q' f) (m : Mp p b w w') (h1 : P ≠ p) (h2 : P ≠ b) : RPl w' P now q L := by
  obtain ⟨v, hr, hl⟩ := h
  exact ⟨v, (m.block _ (lt_of_rowR hr) h1 h2).trans hr, lr_mp hl pl m⟩
theorem below_srow {B : Nat} {w W : World} (h : Below B w W) {g : Nat} (hg : B ≤ g) (cs : Array Value) : Below B w (W.setRow g cs) :=
  ⟨h.os, h.tape, h.output, by rw [setRow_size]; exact h.size, fun i hi => (setRow_other _ _ _ _ (by omega)).trans (h.block i hi)⟩
theorem wpAnyH_mono {P : Program} {md : Region.Mode} {ops : Array Oper} {Q : Exit → Go.Act → World → Prop} {S S' : World → Prop} (hS : ∀ w, S' w → S w) : ∀ (fuel : Nat) (listed : Array Bool) (a : Go.Act) (w : World), wpAnyH P md ops Q S' fuel listed a w → wpAnyH P md ops Q S fuel listed a w
  | 0, _, _, _, h => h
  | fuel + 1, _, _, _, h => ⟨h.1, fun i hi => wpOp_mono (fun a' w' h' => ⟨hS _ h'.1, wpAnyH_mono hS fuel _ a' w' h'.2⟩) (h.2 i hi)⟩
/-- nothing but the three blocks has turned, and the request stands in A -/
structure Sx (w1 : World) (p b P A : Nat) (row : Array Value) (V : World) : Prop where
  tw : Two w1 V p b P P
  rq : V.heap[A]? = some (.cells row 32 (0, 0))
/-- nothing that stood has turned -/
structure Bx (w V : World) : Prop where
  b : Below w.heap.size w V
theorem Sx.mp {w1 V V' : World} {p b P A : Nat} {row : Array Value} (h : Sx w1 p b P A row V) (m : Mp p b V V') (h1 : A ≠ p) (h2 : A ≠ b) : Sx w1 p b P A row V' := ⟨h.tw.left m, (m.block _ (lt_of_rowR h.rq) h1 h2).trans h.rq⟩
theorem Sx.mq {w1 V V' : World} {p b P A : Nat} {row : Array Value} (h : Sx w1 p b P A row V) (m : Mp P P V V') (h1 : A ≠ P) : Sx w1 p b P A row V' := ⟨h.tw.right m, (m.block _ (lt_of_rowR h.rq) h1 h1).trans h.rq⟩
theorem Sx.below {w1 V V' : World} {p b P A : Nat} {row : Array Value} (h : Sx w1 p b P A row V) (m : Below V.heap.size V V') : Sx w1 p b P A row V' := ⟨h.tw.left (Mp.of_below m), (m.block _ (lt_of_rowR h.rq)).trans h.rq⟩
set_option maxRecDepth 100000 in
set_option maxHeartbeats 16000000 in
theorem does_main (q : Int) (t0 : Nat) (l : List Og) (v : Value) (w : World) (ht0 : t0 < 18446744073709551616) (hv : LR 5 encO w v l) (hk0 : ∀ o ∈ l, o.Kind) :
    Calls Try.prog 3 #[.int .i64 q, .int .u64 (t0 : Nat), v] w fun e w' => e = .returned (.bool true) ∧ Below w.heap.size w w' := by
  obtain ⟨oa, cap, rfl, _, hx⟩ := hv
  obtain ⟨n, hn⟩ : ∃ n, n = l.length := ⟨_, rfl⟩
  rw [← hn]
  have HX := Lib.hid hx
  have HN := Lib.hid hn
  have HK := Lib.hid hk0
  obtain ⟨X, hX⟩ : ∃ X, X = w.heap.size := ⟨_, rfl⟩
  have HXX := Lib.hid hX
  have HNEW := Lib.hid (New_val w t0 q ht0)
  clear hx hn hk0 hX ht0
  go_enter Try.func3, Try.ntmps3
  go_wp2_with fail
  refine (HNEW.out).mono ?_; rintro e w0 ⟨rfl, pl, bl, hz⟩
  obtain ⟨P, hP⟩ : ∃ P, P = w0.heap.size := ⟨_, rfl⟩
  obtain ⟨p, hp⟩ : ∃ p, p = w.heap.size + 1 := ⟨_, rfl⟩
  obtain ⟨b, hb⟩ : ∃ b, b = w.heap.size := ⟨_, rfl⟩
  rw [← hp, ← hb] at pl
  rw [← hp]
  obtain ⟨w1, hw1⟩ : ∃ W, W = w0.alloc (.cells #[.int .u64 (t0 : Int), .int .i64 q, .slice none 0 0] 29) := ⟨_, rfl⟩
  have b01 : Below w0.heap.size w0 w1 := by rw [hw1]; exact (Below.refl w0.heap.size w0).alloc (Nat.le_refl _) _
  have n1 : w1.heap[P]? = some (.cells #[.int .u64 (t0 : Int), .int .i64 q, .slice none 0 0] 29 (0, 0)) := by rw [hw1, hP]; exact heap_alloc_new w0 _
  have rp1 : RPl w1 P t0 q [] := ⟨_, n1, LR.nil 3 Go.Proofs.Ytmbidannodelfaa.G.encS w1 none 0⟩
  have pl1 := pl.below b01
  have bx : Below X w w1 := by rw [HXX.out]; exact stepR bl b01
  have DIS : Hid (P ≠ p ∧ P ≠ b ∧ X ≤ p ∧ X ≤ b ∧ X ≤ P) := Lib.hid (by have := HXX.out; omega)
  have PL1 := Lib.hid pl1
  have RP1 := Lib.hid rp1
  have BX := Lib.hid bx
  have HW1 := Lib.hid hw1
  have HPP := Lib.hid hP
  clear pl bl hz hP hp hb hw1 b01 n1 rp1 pl1 bx HNEW
  go_wp2_with fail
  try simp only [← HW1.out, ← HPP.out]
  clear HW1 HPP
  go_loopw [9] (fun j wr => ∃ (s m now : Nat) (f : ByteArray → Option Ses) (L : List Ses), s ≤ n ∧ s ≤ 60 ∧ j = .int .i64 s ∧ m = s ∧ PL wr p b m now q f ∧ RPl wr P now q L ∧ IsSes now f L ∧ L.length ≤ s ∧ Two w1 wr p b P P) (fun j _ => n - (intOf j).toNat)
  case atStart => exact ⟨0, 0, t0, _, [], by omega, by omega, rfl, rfl, PL1.out, RP1.out, IsSes.nil0 t0, Nat.le_refl _, Two.refl _ _ _ _ _⟩
  case round =>
    obtain ⟨s, m, now, f, L, hs, hs60, rfl, hm, hpl, hrp, hL, hlen, htw⟩ := hrel
    have PLr := Lib.hid hpl
    have RPr := Lib.hid hrp
    have HL := Lib.hid hL
    have HLEN := Lib.hid hlen
    have TW := Lib.hid htw
    have HM := Lib.hid hm
    have HS60 := Lib.hid hs60
    clear hpl hrp hL hlen htw hm
    by_cases hlt : s < n
    · have hkn : (s : Int) < (n : Int) := by omega
      by_cases hlt60 : s < 60
      · have hk60 : (s : Int) < 60 := by omega
        have hsl : s < l.length := by have := HN.out; omega
        obtain ⟨bb, off, hoa, hcell⟩ := HX.out s hsl
        have hok := HK.out l[s] (List.getElem_mem hsl)
        obtain ⟨o, ho⟩ : ∃ o, o = l[s] := ⟨_, rfl⟩
        rw [← ho] at hcell hok
        obtain ⟨⟨ok, oi, ov, ox⟩, ot⟩ := o
        have BW : ∀ V, Two w1 V p b P P → Below X w V := fun V hV => BX.out.trans (hV.below (B := X) DIS.out.2.2.1 DIS.out.2.2.2.1 DIS.out.2.2.2.2 DIS.out.2.2.2.2 (by have := BX.out.size; have := HXX.out; omega))
        have hl0 := lt_of_cellR (hcell 0 _ rfl)
        have cells : ∀ j u, (encO ⟨⟨ok, oi, ov, ox⟩, ot⟩)[j]? = some u → ∀ V, Two w1 V p b P P → V.cell? ⟨bb, off + s * 5 + j, none⟩ = some u := fun j u hu V hV => by
          have hbv := BW V hV
          rw [HXX.out] at hbv
          exact (hbv.cell (p := ⟨bb, off + s * 5 + j, none⟩) hl0).trans (hcell j u hu)
        have d0 := cells 0 _ rfl wr TW.out
        have d1 := cells 1 _ rfl wr TW.out
        have d2 := cells 2 _ rfl wr TW.out
        have d3 := cells 3 _ rfl wr TW.out
        have d4 := cells 4 _ rfl
        simp only [Nat.add_zero] at d0
        have D4 := Lib.hid d4
        have hcutr := fun W => CutR_val ⟨ok, oi, ov, ox⟩ W
        have hrc := hok.r.cut
        have hot := hok.t
        obtain ⟨cc, hcc⟩ : ∃ c, c = Rq.cut ⟨ok, oi, ov, ox⟩ := ⟨_, rfl⟩
        rw [← hcc] at hcutr hrc
        have hs6 := HS60.out
        have hm6 := HM.out
        have hll := HLEN.out
        have hnow := PLr.out.nlt
        obtain ⟨u, hu⟩ : ∃ u, u = addV now ot := ⟨_, rfl⟩
        have hul : u < 18446744073709551616 := by rw [hu]; exact addV_lt _ _ hnow hot
        have hMs := HL.out.later (show now ≤ u by rw [hu]; exact addV_ge now ot hnow)
        have hMl : (L.filter fun s => decide (u < s.dl)).length ≤ L.length := List.length_filter_le _ _
        have hta : ∀ W, PL W p b m now q f → _ := fun W hW => Tick_val W p b m now q f ot u L (L.filter fun s => decide (u < s.dl)) hW (by omega) hot hu HL.out hMs hMl (by omega)
        have htb : ∀ W, RPl W P now q L → _ := fun W hW => rTick_val W P now q L ot u hW hnow hot hu (by omega)
        obtain ⟨M, hM⟩ : ∃ M, M = L.filter fun s => decide (u < s.dl) := ⟨_, rfl⟩
        simp only [← hM] at hta htb hMs hMl
        obtain ⟨nd, hnd⟩ : ∃ x, x = L.length - M.length := ⟨_, rfl⟩
        simp only [← hnd] at hta htb
        have hda : ∀ W, PL W p b m u q f → _ := fun W hW => Do_val W p b m u q f cc M hW hrc (by omega) hMs
        have hdb : ∀ W, RPl W P u q M → _ := fun W hW => rDo_val W P u q f M cc hW hrc hul hMs (fun k s h => (PLr.out.ids k s h).1) (by omega)
        obtain ⟨y, hy⟩ : ∃ y, y = doR u q f M.length cc := ⟨_, rfl⟩
        obtain ⟨g, hg⟩ : ∃ g, g = doF u q f M.length cc := ⟨_, rfl⟩
        simp only [← hy, ← hg] at hda hdb
        have hrep := fun W => Rep_val y W
        have hreq := fun W => Req_val cc W
        have hva := fun W => Valid_val cc W hrc
        have hvb := fun W => rValid_val cc W hrc
        have hca := fun W => Changes_val cc W
        have hcb := fun W => rChanges_val cc W
        obtain ⟨ve, hve⟩ : ∃ e, e = validE cc := ⟨_, rfl⟩
        obtain ⟨cg, hcg⟩ : ∃ c, c = chg cc.kind := ⟨_, rfl⟩
        simp only [← hve] at hva hvb
        simp only [← hcg] at hca hcb
        have HML : Hid (M.length ≤ 60) := Lib.hid (by omega)
        have HMS : Hid (M.length ≤ s) := Lib.hid (by omega)
        have hltp := PLr.out.lts
        have hltP := RPr.out.lt
        obtain ⟨dk, di, dv, dx⟩ := cc
        obtain ⟨ye, yv, yd⟩ := y
        simp only [Rq.row, Rp.row] at hcutr hda hdb hrep hreq hva hvb hca hcb
        have HCR := Lib.hid hcutr
        have HTA := Lib.hid hta
        have HTB := Lib.hid htb
        have HDA := Lib.hid hda
        have HDB := Lib.hid hdb
        have HRE := Lib.hid hrep
        have HRQ := Lib.hid hreq
        have HVA := Lib.hid hva
        have HVB := Lib.hid hvb
        have HCA := Lib.hid hca
        have HCB := Lib.hid hcb
        have ONE : Hid ((#[.int .i64 dk, .string di, .string dv, .float .f64 dx] : Array Value).all (·.oneCell') = true) := Lib.hid (by simp [Value.oneCell'])
        have HLT := Lib.hid (show p < wr.heap.size ∧ b < wr.heap.size ∧ P < wr.heap.size from ⟨hltp.1, hltp.2, hltP⟩)
        subst hoa
        clear cells hcell ho hok BW hcutr hrc hot hcc hl0 hs6 hm6 hll hnow hul hMs hMl hta htb hM hnd hda hdb hy hg hrep hreq hva hvb hca hcb hve hcg hltp hltP hu d4
        go_wp2_with fail
        refine (HCR.out _).mono ?_; rintro e v1 ⟨rfl, bv1⟩
        have n0 := heap_alloc_new v1 (.cells #[.int .i64 0, .string ⟨#[]⟩, .string ⟨#[]⟩, .float .f64 0] 32)
        have N0 := Lib.hid n0
        have nA := setRow_heap (v1.alloc (.cells #[.int .i64 0, .string ⟨#[]⟩, .string ⟨#[]⟩, .float .f64 0] 32)) v1.heap.size _ #[.int .i64 dk, .string di, .string dv, .float .f64 dx] _ _ n0
        have b7 := below_srow (bv1.alloc bv1.size (.cells #[.int .i64 0, .string ⟨#[]⟩, .string ⟨#[]⟩, .float .f64 0] 32)) bv1.size #[.int .i64 dk, .string di, .string dv, .float .f64 dx]
        obtain ⟨W7, hW7⟩ : ∃ W, W = (v1.alloc (.cells #[.int .i64 0, .string ⟨#[]⟩, .string ⟨#[]⟩, .float .f64 0] 32)).setRow v1.heap.size #[.int .i64 dk, .string di, .string dv, .float .f64 dx] := ⟨_, rfl⟩
        obtain ⟨A, hA⟩ : ∃ A, A = v1.heap.size := ⟨_, rfl⟩
        rw [← hW7] at nA b7
        rw [← hA] at nA
        have DA : Hid (A ≠ p ∧ A ≠ b ∧ A ≠ P) := Lib.hid (by have := HLT.out; have := bv1.size; omega)
        have SX7 := Lib.hid (show Sx w1 p b P A #[.int .i64 dk, .string di, .string dv, .float .f64 dx] W7 from ⟨TW.out.left (Mp.of_below b7), nA⟩)
        have PL7 := Lib.hid (PLr.out.below b7)
        have RP7 := Lib.hid (RPr.out.below b7)
        have HW7 := Lib.hid hW7
        have HAA := Lib.hid hA
        clear n0 nA b7 hW7 hA bv1 TW PLr RPr
        go_wp2_with (refine wpList_store_row rfl 32 _ _ rfl v1.heap.size #[.int .i64 dk, .string di, .string dv, .float .f64 dx] rfl rfl _ _ N0.out (by kernel_rfl) rfl ONE.out ?_)
        rw [← HW7.out]
        try simp only [← HAA.out]
        clear HW7 HAA N0 d0 d1 d2 d3
        go_frame
        have e4 : ∀ V, Sx w1 p b P A #[.int .i64 dk, .string di, .string dv, .float .f64 dx] V → V.cell? ⟨bb, off + s * 5 + 4, none⟩ = some (.int .u64 (ot : Int)) := fun V hV => D4.out V hV.tw
        have a0 : ∀ V, Sx w1 p b P A #[.int .i64 dk, .string di, .string dv, .float .f64 dx] V → V.cell? ⟨A, 0, none⟩ = some (.int .i64 dk) := fun V hV => (cell_of_row _ _ 0 _ _ _ hV.rq).trans rfl
        have a1 : ∀ V, Sx w1 p b P A #[.int .i64 dk, .string di, .string dv, .float .f64 dx] V → V.cell? ⟨A, 1, none⟩ = some (.string di) := fun V hV => (cell_of_row _ _ 1 _ _ _ hV.rq).trans rfl
        have a2 : ∀ V, Sx w1 p b P A #[.int .i64 dk, .string di, .string dv, .float .f64 dx] V → V.cell? ⟨A, 2, none⟩ = some (.string dv) := fun V hV => (cell_of_row _ _ 2 _ _ _ hV.rq).trans rfl
        have a3 : ∀ V, Sx w1 p b P A #[.int .i64 dk, .string di, .string dv, .float .f64 dx] V → V.cell? ⟨A, 3, none⟩ = some (.float .f64 dx) := fun V hV => (cell_of_row _ _ 3 _ _ _ hV.rq).trans rfl
        refine wp_region_held (S := fun V => Sx w1 p b P A #[.int .i64 dk, .string di, .string dv, .float .f64 dx] V) (by kernel_rfl) ?_
        obtain ⟨Wd, hWd⟩ : ∃ x, x = { W7 with drawn := W7.drawn + 1 } := ⟨_, rfl⟩
        have bd : Below W7.heap.size W7 Wd := by rw [hWd]; exact ⟨rfl, rfl, rfl, Nat.le_refl _, fun _ _ => rfl⟩
        rw [← hWd]
        have PLd := Lib.hid (PL7.out.below bd)
        have RPd := Lib.hid (RP7.out.below bd)
        have hS0 := SX7.out.below bd
        clear hWd bd PL7 RP7 SX7
        refine wpAnyH_take (i := 0) (v := .pointer (some ⟨p, 0, none⟩)) rfl (by kernel_rfl) ?_ ?_ (fun _ _ _ h => h) (Or.inl ⟨by first | kernel_rfl | rfl, ?_⟩) hS0 ?_
        · kernel_rfl
        · kernel_rfl
        · intro V hV; go_simp
        refine wpAnyH_take (i := 1) (v := .slice (some ⟨bb, off, none⟩) n cap) rfl (by kernel_rfl) ?_ ?_ (fun _ _ _ h => h) (Or.inl ⟨by first | kernel_rfl | rfl, ?_⟩) hS0 ?_
        · kernel_rfl
        · kernel_rfl
        · intro V hV; go_simp
        refine wpAnyH_take (i := 2) (v := .int .i64 (s : Int)) rfl (by kernel_rfl) ?_ ?_ (fun _ _ _ h => h) (Or.inl ⟨by first | kernel_rfl | rfl, ?_⟩) hS0 ?_
        · kernel_rfl
        · kernel_rfl
        · intro V hV; go_simp
        refine wpAnyH_take (i := 3) (v := .pointer (some ⟨bb, off + s * 5, none⟩)) rfl (by kernel_rfl) ?_ ?_ (fun _ _ _ h => h) (Or.inl ⟨by first | kernel_rfl | rfl, ?_⟩) hS0 ?_
        · kernel_rfl
        · kernel_rfl
        · intro V hV; go_simp
        refine wpAnyH_take (i := 4) (v := .pointer (some ⟨bb, off + s * 5 + 4, none⟩)) rfl (by kernel_rfl) ?_ ?_ (fun _ _ _ h => h) (Or.inl ⟨by first | kernel_rfl | rfl, ?_⟩) hS0 ?_
        · kernel_rfl
        · kernel_rfl
        · intro V hV; go_simp
        refine wpAnyH_take (i := 5) (v := .int .u64 (ot : Int)) rfl (by kernel_rfl) ?_ ?_ (fun _ _ _ h => h) (Or.inl ⟨by first | kernel_rfl | rfl, ?_⟩) hS0 ?_
        · kernel_rfl
        · kernel_rfl
        · intro V hV; go_simp
        refine wpAnyH_take (i := 7) (v := .pointer (some ⟨P, 0, none⟩)) rfl (by kernel_rfl) ?_ ?_ (fun _ _ _ h => h) (Or.inl ⟨by first | kernel_rfl | rfl, ?_⟩) hS0 ?_
        · kernel_rfl
        · kernel_rfl
        · intro V hV; go_simp
        refine wpAnyH_take (i := 8) (v := .slice (some ⟨bb, off, none⟩) n cap) rfl (by kernel_rfl) ?_ ?_ (fun _ _ _ h => h) (Or.inl ⟨by first | kernel_rfl | rfl, ?_⟩) hS0 ?_
        · kernel_rfl
        · kernel_rfl
        · intro V hV; go_simp
        refine wpAnyH_take (i := 9) (v := .int .i64 (s : Int)) rfl (by kernel_rfl) ?_ ?_ (fun _ _ _ h => h) (Or.inl ⟨by first | kernel_rfl | rfl, ?_⟩) hS0 ?_
        · kernel_rfl
        · kernel_rfl
        · intro V hV; go_simp
        refine wpAnyH_take (i := 10) (v := .pointer (some ⟨bb, off + s * 5, none⟩)) rfl (by kernel_rfl) ?_ ?_ (fun _ _ _ h => h) (Or.inl ⟨by first | kernel_rfl | rfl, ?_⟩) hS0 ?_
        · kernel_rfl
        · kernel_rfl
        · intro V hV; go_simp
        refine wpAnyH_take (i := 11) (v := .pointer (some ⟨bb, off + s * 5 + 4, none⟩)) rfl (by kernel_rfl) ?_ ?_ (fun _ _ _ h => h) (Or.inl ⟨by first | kernel_rfl | rfl, ?_⟩) hS0 ?_
        · kernel_rfl
        · kernel_rfl
        · intro V hV; go_simp
        refine wpAnyH_take (i := 12) (v := .int .u64 (ot : Int)) rfl (by kernel_rfl) ?_ ?_ (fun _ _ _ h => h) (Or.inl ⟨by first | kernel_rfl | rfl, ?_⟩) hS0 ?_
        · kernel_rfl
        · kernel_rfl
        · intro V hV; go_simp
        refine wpAnyH_ready (rs := [6]) (by kernel_rfl) (by simp) ?_
        refine AllReadyH.cons rfl (fun K hK => ?_) AllReadyH.nil
        go_simp
        refine (HTA.out Wd PLd.out).mono ?_; rintro e x1 ⟨rfl, pl_, mp_⟩
        have PLe := Lib.hid pl_
        have RPe := Lib.hid (RPl.mp RPd.out PLd.out mp_ DIS.out.1 DIS.out.2.1)
        have SXe := Lib.hid (hS0.mp mp_ DA.out.1 DA.out.2.1)
        clear pl_ mp_
        (try go_simp)
        refine hK.out _ _ (SXe.out) (fun hS1 => ?_)
        clear hK K hS0 PLd RPd
        refine wpAnyH_ready (rs := [13]) (by kernel_rfl) (by simp) ?_
        refine AllReadyH.cons rfl (fun K hK => ?_) AllReadyH.nil
        go_simp
        refine (HTB.out x1 RPe.out).mono ?_; rintro e x2 ⟨rfl, rp_, mp_⟩
        have RPf := Lib.hid rp_
        have PLf := Lib.hid (PL.othero PLe.out mp_ (fun e => DIS.out.1 e.symm) (fun e => DIS.out.1 e.symm) (fun e => DIS.out.2.1 e.symm) (fun e => DIS.out.2.1 e.symm))
        have SXf := Lib.hid (hS1.mq mp_ DA.out.2.2)
        clear rp_ mp_
        (try go_simp)
        refine hK.out _ _ (SXf.out) (fun hS2 => ?_)
        clear hK K hS1 PLe RPe SXe
        refine wpAnyH_take (i := 14) (v := .bool false) rfl (by kernel_rfl) ?_ ?_ (fun _ _ _ h => h) (Or.inl ⟨by first | kernel_rfl | rfl, ?_⟩) hS2 ?_
        · kernel_rfl
        · kernel_rfl
        · intro V hV; go_simp
        refine wpAnyH_take (i := 15) (v := .bool false) rfl (by kernel_rfl) ?_ ?_ (fun _ _ _ h => h) (Or.inl ⟨by first | kernel_rfl | rfl, ?_⟩) hS2 ?_
        · kernel_rfl
        · kernel_rfl
        · intro V hV; go_simp
        refine wpAnyH_take (i := 16) (v := .pointer (some ⟨p, 0, none⟩)) rfl (by kernel_rfl) ?_ ?_ (fun _ _ _ h => h) (Or.inl ⟨by first | kernel_rfl | rfl, ?_⟩) hS2 ?_
        · kernel_rfl
        · kernel_rfl
        · intro V hV; go_simp
        refine wpAnyH_take (i := 17) (v := .agg #[.int .i64 dk, .string di, .string dv, .float .f64 dx]) rfl (by kernel_rfl) ?_ ?_ (fun _ _ _ h => h) (Or.inl ⟨by first | kernel_rfl | rfl, ?_⟩) hS2 ?_
        · kernel_rfl
        · kernel_rfl
        · intro V hV; go_simp
        refine wpAnyH_take (i := 20) (v := .pointer (some ⟨P, 0, none⟩)) rfl (by kernel_rfl) ?_ ?_ (fun _ _ _ h => h) (Or.inl ⟨by first | kernel_rfl | rfl, ?_⟩) hS2 ?_
        · kernel_rfl
        · kernel_rfl
        · intro V hV; go_simp
        refine wpAnyH_take (i := 21) (v := .agg #[.int .i64 dk, .string di, .string dv, .float .f64 dx]) rfl (by kernel_rfl) ?_ ?_ (fun _ _ _ h => h) (Or.inl ⟨by first | kernel_rfl | rfl, ?_⟩) hS2 ?_
        · kernel_rfl
        · kernel_rfl
        · intro V hV; go_simp
        refine wpAnyH_ready (rs := [18]) (by kernel_rfl) (by simp) ?_
        refine AllReadyH.cons rfl (fun K hK => ?_) AllReadyH.nil
        go_simp
        refine (HDA.out x2 PLf.out).mono ?_; rintro e x3 ⟨rfl, pl_, mp_⟩
        have PLg := Lib.hid pl_
        have RPg := Lib.hid (RPl.mp RPf.out PLf.out mp_ DIS.out.1 DIS.out.2.1)
        have SXg := Lib.hid (hS2.mp mp_ DA.out.1 DA.out.2.1)
        clear pl_ mp_
        (try go_simp)
        refine hK.out _ _ (SXg.out) (fun hS3 => ?_)
        clear hK K hS2 PLf RPf SXf
        refine wpAnyH_ready (rs := [19]) (by kernel_rfl) (by simp) ?_
        refine AllReadyH.cons rfl (fun K hK => ?_) AllReadyH.nil
        go_simp
        refine (HRE.out x3).mono ?_; rintro e x4 ⟨rfl, b_⟩
        have PLh := Lib.hid (PLg.out.below b_)
        have RPh := Lib.hid (RPg.out.below b_)
        have SXh := Lib.hid (hS3.below b_)
        clear b_
        (try go_simp)
        refine hK.out _ _ (SXh.out) (fun hS4 => ?_)
        clear hK K hS3 PLg RPg SXg
        refine wpAnyH_ready (rs := [22]) (by kernel_rfl) (by simp) ?_
        refine AllReadyH.cons rfl (fun K hK => ?_) AllReadyH.nil
        go_simp
        refine (HRQ.out x4).mono ?_; rintro e x5 ⟨rfl, b_⟩
        have PLi := Lib.hid (PLh.out.below b_)
        have RPi := Lib.hid (RPh.out.below b_)
        have SXi := Lib.hid (hS4.below b_)
        clear b_
        (try go_simp)
        refine hK.out _ _ (SXi.out) (fun hS5 => ?_)
        clear hK K hS4 PLh RPh SXh
        refine wpAnyH_ready (rs := [23]) (by kernel_rfl) (by simp) ?_
        refine AllReadyH.cons rfl (fun K hK => ?_) AllReadyH.nil
        go_simp
        refine (HDB.out x5 RPi.out).mono ?_; rintro e x6 ⟨rfl, ⟨N, hN, hNl, rp_⟩, mp_⟩
        have RPj := Lib.hid rp_
        have PLj := Lib.hid (PL.othero PLi.out mp_ (fun e => DIS.out.1 e.symm) (fun e => DIS.out.1 e.symm) (fun e => DIS.out.2.1 e.symm) (fun e => DIS.out.2.1 e.symm))
        have SXj := Lib.hid (hS5.mq mp_ DA.out.2.2)
        have HN6 := Lib.hid hN
        have HNL := Lib.hid hNl
        clear rp_ mp_ hN hNl
        (try go_simp)
        refine hK.out _ _ (SXj.out) (fun hS6 => ?_)
        clear hK K hS5 PLi RPi SXi e4 a0 a1 a2 a3 hS6
        refine wpAnyH_mono (S' := fun V => Bx x6 V) (fun V hV => SXj.out.below hV.b) _ _ _ _ ?_
        have hB : Bx x6 x6 := ⟨Below.refl x6.heap.size x6⟩
        obtain ⟨vN, hrN, hlN⟩ := RPj.out
        obtain ⟨oN, cN, hvN⟩ := hlN.form
        obtain ⟨nN, hnN⟩ : ∃ k, k = N.length := ⟨_, rfl⟩
        rw [← hnN] at hvN
        subst hvN
        have p0 : ∀ V, Bx x6 V → V.cell? ⟨P, 0, none⟩ = some (.int .u64 (u : Int)) := fun V hV => (cell_of_row _ _ 0 _ _ _ ((hV.b.block _ (lt_of_rowR hrN)).trans hrN)).trans rfl
        have p2 : ∀ V, Bx x6 V → V.cell? ⟨P, 2, none⟩ = some (.slice oN nN cN) := fun V hV => (cell_of_row _ _ 2 _ _ _ ((hV.b.block _ (lt_of_rowR hrN)).trans hrN)).trans rfl
        have a0 : ∀ V, Bx x6 V → V.cell? ⟨A, 0, none⟩ = some (.int .i64 dk) := fun V hV => (cell_of_row _ _ 0 _ _ _ (SXj.out.below hV.b).rq).trans rfl
        have a1 : ∀ V, Bx x6 V → V.cell? ⟨A, 1, none⟩ = some (.string di) := fun V hV => (cell_of_row _ _ 1 _ _ _ (SXj.out.below hV.b).rq).trans rfl
        have a2 : ∀ V, Bx x6 V → V.cell? ⟨A, 2, none⟩ = some (.string dv) := fun V hV => (cell_of_row _ _ 2 _ _ _ (SXj.out.below hV.b).rq).trans rfl
        have a3 : ∀ V, Bx x6 V → V.cell? ⟨A, 3, none⟩ = some (.float .f64 dx) := fun V hV => (cell_of_row _ _ 3 _ _ _ (SXj.out.below hV.b).rq).trans rfl
        have LN := Lib.hid hlN
        have HNN := Lib.hid hnN
        clear hrN hlN hnN
        refine wpAnyH_take (i := 24) (v := .bool false) rfl (by kernel_rfl) ?_ ?_ (fun _ _ _ h => h) (Or.inl ⟨by first | kernel_rfl | rfl, ?_⟩) hB ?_
        · kernel_rfl
        · kernel_rfl
        · intro V hV; go_simp
        refine wpAnyH_take (i := 25) (v := .bool false) rfl (by kernel_rfl) ?_ ?_ (fun _ _ _ h => h) (Or.inl ⟨by first | kernel_rfl | rfl, ?_⟩) hB ?_
        · kernel_rfl
        · kernel_rfl
        · intro V hV; go_simp
        refine wpAnyH_take (i := 26) (v := .bool false) rfl (by kernel_rfl) ?_ ?_ (fun _ _ _ h => h) (Or.inl ⟨by first | kernel_rfl | rfl, ?_⟩) hB ?_
        · kernel_rfl
        · kernel_rfl
        · intro V hV; go_simp
        refine wpAnyH_take (i := 27) (v := .pointer (some ⟨p, 0, none⟩)) rfl (by kernel_rfl) ?_ ?_ (fun _ _ _ h => h) (Or.inl ⟨by first | kernel_rfl | rfl, ?_⟩) hB ?_
        · kernel_rfl
        · kernel_rfl
        · intro V hV; go_simp
        refine wpAnyH_take (i := 29) (v := .pointer (some ⟨P, 0, none⟩)) rfl (by kernel_rfl) ?_ ?_ (fun _ _ _ h => h) (Or.inl ⟨by first | kernel_rfl | rfl, ?_⟩) hB ?_
        · kernel_rfl
        · kernel_rfl
        · intro V hV; go_simp
        refine wpAnyH_take (i := 30) (v := .pointer (some ⟨P, 0, none⟩)) rfl (by kernel_rfl) ?_ ?_ (fun _ _ _ h => h) (Or.inl ⟨by first | kernel_rfl | rfl, ?_⟩) hB ?_
        · kernel_rfl
        · kernel_rfl
        · intro V hV; go_simp
        refine wpAnyH_take (i := 31) (v := .pointer (some ⟨P, 0, none⟩)) rfl (by kernel_rfl) ?_ ?_ (fun _ _ _ h => h) (Or.inl ⟨by first | kernel_rfl | rfl, ?_⟩) hB ?_
        · kernel_rfl
        · kernel_rfl
        · intro V hV; go_simp
        refine wpAnyH_take (i := 32) (v := .int .u64 (u : Int)) rfl (by kernel_rfl) ?_ ?_ (fun _ _ _ h => h) (Or.inl ⟨by first | kernel_rfl | rfl, ?_⟩) hB ?_
        · kernel_rfl
        · kernel_rfl
        · intro V hV; go_simp
        refine wpAnyH_ready (rs := [28]) (by kernel_rfl) (by simp) ?_
        refine AllReadyH.cons rfl (fun K hK => ?_) AllReadyH.nil
        go_simp
        refine (Now_val x6 p b (m + 1) u q g PLj.out).mono ?_; rintro e y1 ⟨rfl, b_⟩
        have BY1 := Lib.hid (show Bx x6 y1 from ⟨stepR hB.b b_⟩)
        clear b_
        (try go_simp)
        refine hK.out _ _ (BY1.out) (fun hB1 => ?_)
        clear hK K hB
        refine wpAnyH_take (i := 33) (v := .bool false) rfl (by kernel_rfl) ?_ ?_ (fun _ _ _ h => h) (Or.inl ⟨by first | kernel_rfl | rfl, ?_⟩) hB1 ?_
        · kernel_rfl
        · kernel_rfl
        · intro V hV; go_simp
        refine wpAnyH_take (i := 34) (v := .bool false) rfl (by kernel_rfl) ?_ ?_ (fun _ _ _ h => h) (Or.inl ⟨by first | kernel_rfl | rfl, ?_⟩) hB1 ?_
        · kernel_rfl
        · kernel_rfl
        · intro V hV; go_simp
        refine wpAnyH_take (i := 35) (v := .bool false) rfl (by kernel_rfl) ?_ ?_ (fun _ _ _ h => h) (Or.inl ⟨by first | kernel_rfl | rfl, ?_⟩) hB1 ?_
        · kernel_rfl
        · kernel_rfl
        · intro V hV; go_simp
        refine wpAnyH_take (i := 36) (v := .pointer (some ⟨p, 0, none⟩)) rfl (by kernel_rfl) ?_ ?_ (fun _ _ _ h => h) (Or.inl ⟨by first | kernel_rfl | rfl, ?_⟩) hB1 ?_
        · kernel_rfl
        · kernel_rfl
        · intro V hV; go_simp
        refine wpAnyH_take (i := 39) (v := .pointer (some ⟨P, 0, none⟩)) rfl (by kernel_rfl) ?_ ?_ (fun _ _ _ h => h) (Or.inl ⟨by first | kernel_rfl | rfl, ?_⟩) hB1 ?_
        · kernel_rfl
        · kernel_rfl
        · intro V hV; go_simp
        refine wpAnyH_take (i := 40) (v := .pointer (some ⟨P, 0, none⟩)) rfl (by kernel_rfl) ?_ ?_ (fun _ _ _ h => h) (Or.inl ⟨by first | kernel_rfl | rfl, ?_⟩) hB1 ?_
        · kernel_rfl
        · kernel_rfl
        · intro V hV; go_simp
        refine wpAnyH_take (i := 41) (v := .pointer (some ⟨P, 2, none⟩)) rfl (by kernel_rfl) ?_ ?_ (fun _ _ _ h => h) (Or.inl ⟨by first | kernel_rfl | rfl, ?_⟩) hB1 ?_
        · kernel_rfl
        · kernel_rfl
        · intro V hV; go_simp
        refine wpAnyH_take (i := 42) (v := .slice oN nN cN) rfl (by kernel_rfl) ?_ ?_ (fun _ _ _ h => h) (Or.inl ⟨by first | kernel_rfl | rfl, ?_⟩) hB1 ?_
        · kernel_rfl
        · kernel_rfl
        · intro V hV; go_simp
        refine wpAnyH_ready (rs := [37]) (by kernel_rfl) (by simp) ?_
        refine AllReadyH.cons rfl (fun K hK => ?_) AllReadyH.nil
        go_simp
        refine (sess_is y1 p b (m + 1) u q g N (PLj.out.below hB1.b) (by have := HM.out; have := HS60.out; omega) HN6.out).mono ?_; rintro e y2 ⟨⟨sv, rfl, hsv⟩, b_⟩
        have BY2 := Lib.hid (show Bx x6 y2 from ⟨stepR hB1.b b_⟩)
        have HSV := Lib.hid hsv
        have hlv := Lives_val y2 sv N hsv (by have := HNL.out; have := HML.out; omega)
        have HLV := Lib.hid hlv
        clear hsv hlv
        clear b_
        (try go_simp)
        refine hK.out _ _ (BY2.out) (fun hB2 => ?_)
        clear hK K hB1
        refine wpAnyH_ready (rs := [38]) (by kernel_rfl) (by simp) ?_
        refine AllReadyH.cons rfl (fun K hK => ?_) AllReadyH.nil
        go_simp
        refine (HLV.out).mono ?_; rintro e y3 ⟨⟨su, rfl, hsu⟩, b_⟩
        have BY3 := Lib.hid (show Bx x6 y3 from ⟨stepR hB2.b b_⟩)
        have hsm := Same_val y3 su (.slice oN nN cN) N N hsu (LN.out.below BY3.out.b (Nat.le_refl _)) (by have := HNL.out; have := HML.out; omega)
        rw [decide_eq_true rfl] at hsm
        have HSM := Lib.hid hsm
        clear hsu hsm
        clear b_
        (try go_simp)
        refine hK.out _ _ (BY3.out) (fun hB3 => ?_)
        clear hK K hB2
        refine wpAnyH_ready (rs := [43]) (by kernel_rfl) (by simp) ?_
        refine AllReadyH.cons rfl (fun K hK => ?_) AllReadyH.nil
        go_simp
        refine (HSM.out).mono ?_; rintro e y4 ⟨rfl, b_⟩
        have BY4 := Lib.hid (show Bx x6 y4 from ⟨stepR hB3.b b_⟩)
        clear b_
        (try go_simp)
        refine hK.out _ _ (BY4.out) (fun hB4 => ?_)
        clear hK K hB3
        refine wpAnyH_take (i := 44) (v := .bool false) rfl (by kernel_rfl) ?_ ?_ (fun _ _ _ h => h) (Or.inl ⟨by first | kernel_rfl | rfl, ?_⟩) hB4 ?_
        · kernel_rfl
        · kernel_rfl
        · intro V hV; go_simp
        refine wpAnyH_take (i := 45) (v := .bool false) rfl (by kernel_rfl) ?_ ?_ (fun _ _ _ h => h) (Or.inl ⟨by first | kernel_rfl | rfl, ?_⟩) hB4 ?_
        · kernel_rfl
        · kernel_rfl
        · intro V hV; go_simp
        refine wpAnyH_take (i := 46) (v := .bool false) rfl (by kernel_rfl) ?_ ?_ (fun _ _ _ h => h) (Or.inl ⟨by first | kernel_rfl | rfl, ?_⟩) hB4 ?_
        · kernel_rfl
        · kernel_rfl
        · intro V hV; go_simp
        refine wpAnyH_take (i := 47) (v := .agg #[.int .i64 dk, .string di, .string dv, .float .f64 dx]) rfl (by kernel_rfl) ?_ ?_ (fun _ _ _ h => h) (Or.inl ⟨by first | kernel_rfl | rfl, ?_⟩) hB4 ?_
        · kernel_rfl
        · kernel_rfl
        · intro V hV; go_simp
        refine wpAnyH_take (i := 49) (v := .agg #[.int .i64 dk, .string di, .string dv, .float .f64 dx]) rfl (by kernel_rfl) ?_ ?_ (fun _ _ _ h => h) (Or.inl ⟨by first | kernel_rfl | rfl, ?_⟩) hB4 ?_
        · kernel_rfl
        · kernel_rfl
        · intro V hV; go_simp
        refine wpAnyH_ready (rs := [48]) (by kernel_rfl) (by simp) ?_
        refine AllReadyH.cons rfl (fun K hK => ?_) AllReadyH.nil
        go_simp
        refine (HVA.out y4).mono ?_; rintro e y5 ⟨rfl, b_⟩
        have BY5 := Lib.hid (show Bx x6 y5 from ⟨stepR hB4.b b_⟩)
        clear b_
        (try go_simp)
        refine hK.out _ _ (BY5.out) (fun hB5 => ?_)
        clear hK K hB4
        refine wpAnyH_ready (rs := [50]) (by kernel_rfl) (by simp) ?_
        refine AllReadyH.cons rfl (fun K hK => ?_) AllReadyH.nil
        go_simp
        refine (HRQ.out y5).mono ?_; rintro e y6 ⟨rfl, b_⟩
        have BY6 := Lib.hid (show Bx x6 y6 from ⟨stepR hB5.b b_⟩)
        clear b_
        (try go_simp)
        refine hK.out _ _ (BY6.out) (fun hB6 => ?_)
        clear hK K hB5
        refine wpAnyH_ready (rs := [51]) (by kernel_rfl) (by simp) ?_
        refine AllReadyH.cons rfl (fun K hK => ?_) AllReadyH.nil
        go_simp
        refine (HVB.out y6).mono ?_; rintro e y7 ⟨rfl, b_⟩
        have BY7 := Lib.hid (show Bx x6 y7 from ⟨stepR hB6.b b_⟩)
        clear b_
        (try go_simp)
        refine hK.out _ _ (BY7.out) (fun hB7 => ?_)
        clear hK K hB6
        refine wpAnyH_take (i := 52) (v := .bool false) rfl (by kernel_rfl) ?_ ?_ (fun _ _ _ h => h) (Or.inl ⟨by first | kernel_rfl | rfl, ?_⟩) hB7 ?_
        · kernel_rfl
        · kernel_rfl
        · intro V hV; go_simp
        refine wpAnyH_take (i := 53) (v := .bool false) rfl (by kernel_rfl) ?_ ?_ (fun _ _ _ h => h) (Or.inl ⟨by first | kernel_rfl | rfl, ?_⟩) hB7 ?_
        · kernel_rfl
        · kernel_rfl
        · intro V hV; go_simp
        refine wpAnyH_take (i := 54) (v := .bool false) rfl (by kernel_rfl) ?_ ?_ (fun _ _ _ h => h) (Or.inl ⟨by first | kernel_rfl | rfl, ?_⟩) hB7 ?_
        · kernel_rfl
        · kernel_rfl
        · intro V hV; go_simp
        refine wpAnyH_take (i := 55) (v := .agg #[.int .i64 dk, .string di, .string dv, .float .f64 dx]) rfl (by kernel_rfl) ?_ ?_ (fun _ _ _ h => h) (Or.inl ⟨by first | kernel_rfl | rfl, ?_⟩) hB7 ?_
        · kernel_rfl
        · kernel_rfl
        · intro V hV; go_simp
        refine wpAnyH_take (i := 57) (v := .agg #[.int .i64 dk, .string di, .string dv, .float .f64 dx]) rfl (by kernel_rfl) ?_ ?_ (fun _ _ _ h => h) (Or.inl ⟨by first | kernel_rfl | rfl, ?_⟩) hB7 ?_
        · kernel_rfl
        · kernel_rfl
        · intro V hV; go_simp
        refine wpAnyH_ready (rs := [56]) (by kernel_rfl) (by simp) ?_
        refine AllReadyH.cons rfl (fun K hK => ?_) AllReadyH.nil
        go_simp
        refine (HCA.out y7).mono ?_; rintro e y8 ⟨rfl, b_⟩
        have BY8 := Lib.hid (show Bx x6 y8 from ⟨stepR hB7.b b_⟩)
        clear b_
        (try go_simp)
        refine hK.out _ _ (BY8.out) (fun hB8 => ?_)
        clear hK K hB7
        refine wpAnyH_ready (rs := [58]) (by kernel_rfl) (by simp) ?_
        refine AllReadyH.cons rfl (fun K hK => ?_) AllReadyH.nil
        go_simp
        refine (HRQ.out y8).mono ?_; rintro e y9 ⟨rfl, b_⟩
        have BY9 := Lib.hid (show Bx x6 y9 from ⟨stepR hB8.b b_⟩)
        clear b_
        (try go_simp)
        refine hK.out _ _ (BY9.out) (fun hB9 => ?_)
        clear hK K hB8
        refine wpAnyH_ready (rs := [59]) (by kernel_rfl) (by simp) ?_
        refine AllReadyH.cons rfl (fun K hK => ?_) AllReadyH.nil
        go_simp
        refine (HCB.out y9).mono ?_; rintro e y10 ⟨rfl, b_⟩
        have BY10 := Lib.hid (show Bx x6 y10 from ⟨stepR hB9.b b_⟩)
        clear b_
        (try go_simp)
        refine hK.out _ _ (BY10.out) (fun hB10 => ?_)
        clear hK K hB9
        refine wpAnyH_take (i := 60) (v := .bool false) rfl (by kernel_rfl) ?_ ?_ (fun _ _ _ h => h) (Or.inl ⟨by first | kernel_rfl | rfl, ?_⟩) hB10 ?_
        · kernel_rfl
        · kernel_rfl
        · intro V hV; go_simp
        refine wpAnyH_take (i := 61) (v := .bool false) rfl (by kernel_rfl) ?_ ?_ (fun _ _ _ h => h) (Or.inl ⟨by first | kernel_rfl | rfl, ?_⟩) hB10 ?_
        · kernel_rfl
        · kernel_rfl
        · intro V hV; go_simp
        have PLz := Lib.hid (PLj.out.below hB10.b)
        have RPz := Lib.hid (RPj.out.below hB10.b)
        have SXz := Lib.hid (SXj.out.below hB10.b)
        clear p0 p2 a0 a1 a2 a3 hB10
        refine wpAnyH_done (by kernel_rfl) ?_ _
        go_wp2_with fail
        go_roundw
        case rel => exact ⟨s + 1, m + 1, u, g, N, by omega, by omega, by go_num, by rw [HM.out], PLz.out, RPz.out, HN6.out, Nat.le_trans HNL.out (Nat.succ_le_succ HMS.out), SXz.out.tw⟩
        case measure => simp [intOf]; omega
      · have hk60 : ¬ (s : Int) < 60 := by omega
        go_wp2_with fail
        refine (fixed_val _).mono ?_; rintro e z1 ⟨rfl, d1⟩
        have BF := Lib.hid ((TW.out.left (Mp.of_below (p := p) (b := b) d1)).below (B := X) DIS.out.2.2.1 DIS.out.2.2.2.1 DIS.out.2.2.2.2 DIS.out.2.2.2.2 (by have := BX.out.size; have := HXX.out; omega))
        clear d1
        go_wp2_with fail
        go_ret
        exact ⟨rfl, by rw [← HXX.out]; exact BX.out.trans BF.out⟩
    · have hkn : ¬ (s : Int) < (n : Int) := by omega
      go_wp2_with fail
      refine (fixed_val _).mono ?_; rintro e z1 ⟨rfl, d1⟩
      have BF := Lib.hid ((TW.out.left (Mp.of_below (p := p) (b := b) d1)).below (B := X) DIS.out.2.2.1 DIS.out.2.2.2.1 DIS.out.2.2.2.2 DIS.out.2.2.2.2 (by have := BX.out.size; have := HXX.out; omega))
      clear d1
      go_wp2_with fail
      go_ret
      exact ⟨rfl, by rw [← HXX.out]; exact BX.out.trans BF.out⟩
theorem PlainDoes_walk (a0 a1 : Int) (v2 : Value) (w : World) (w0 : (Lit.int .i64 a0).wf = true) (w1 : (Lit.int .u64 a1).wf = true) (o2 : Row.Opn Try.prog w 23 v2) :
    Calls Try.prog 3 #[.int .i64 a0, .int .u64 a1, v2] w fun e w' => e = .returned (.bool true) ∧ Below w.heap.size w w' := by
  obtain ⟨t0, rfl, ht⟩ := u64_wf a1 w1
  obtain ⟨l, h1, h2, _⟩ := open_ops o2
  exact does_main a0 t0 l v2 w ht h1 h2
end Go.Proofs.Ytmbidannodelfaa.L
