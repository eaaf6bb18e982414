/- Encode of a checkpoint. -/
import Derived.Test.YtieijelbflkpeaaGCke
namespace Go.Proofs.Ytieijelbflkpeaa.G
open Go.RowKit Go.Proofs.Ytieijelbflkpeaa.CrcPlain Go.Proofs.Ytieijelbflkpeaa.WordPlain
set_option linter.unusedVariables false
set_option linter.unusedSimpArgs false

theorem wput_data (n k : Nat) : (wput n k).data.toList = wl n k := by simp [wput]

set_option maxRecDepth 100000 in
set_option maxHeartbeats 4000000 in
theorem Encode_not (c : Ck) (vo vl : Value) (w : World) (hk : c.Kind) (ho : Sl w vo c.order) (hl : Sl w vl c.lens) (h : ¬ c.Right) :
    Calls Try.prog 10 #[c.val vo vl] w fun e w' => e = .returned (.tuple #[.string ⟨#[]⟩, .int .i64 5]) ∧ Below w.heap.size w w' := by
  have hr := fun (W : World) (a : Sl W vo c.order) (b : Sl W vl c.lens) => Right_val c vo vl W hk a b false (Lib.hid (decide_eq_false h).symm)
  have HR := Lib.hid hr
  have HO := Lib.hid ho
  have HL := Lib.hid hl
  clear hr h ho hl
  obtain ⟨g, ep, l, v, od, ln⟩ := c
  show Calls Try.prog 10 #[.agg #[.int .u64 g, .int .u32 ep, .int .u64 l, .int .u64 v, vo, vl]] w _
  go_enter Try.func10, Try.ntmps10
  go_wp2_with fail
  have hb0 := (Below.refl w.heap.size w).alloc (Nat.le_refl _) (.cells #[.int .u64 g, .int .u32 ep, .int .u64 l, .int .u64 v, vo, vl] 26)
  refine (HR.out _ (HO.out.below hb0 (Nat.le_refl _)) (HL.out.below hb0 (Nat.le_refl _))).mono ?_; rintro e w1 ⟨rfl, hb1⟩
  go_wp2_with fail
  go_ret2
  exact ⟨rfl, below_step hb0 hb1⟩

theorem sec_zero (W : World) : (zeroValue 55).run Try.prog W = .ok (.agg (bvs (padTo [])).toArray) W := by kernel_rfl

set_option maxRecDepth 100000 in
set_option maxHeartbeats 4000000 in
theorem Encode_right (g ep l v : Nat) (od ln : List Int) (b off cap b' off' cap' : Nat) (w : World) (hk : (Ck.mk g ep l v od ln).Kind) (h : (Ck.mk g ep l v od ln).Right)
    (hc1 : ∀ i (h : i < od.length), w.cell? ⟨b, off + i, none⟩ = some (.int .i64 od[i])) (hc2 : ∀ i (h : i < ln.length), w.cell? ⟨b', off' + i, none⟩ = some (.int .i64 ln[i]))
    (ho : Sl w (.slice (some ⟨b, off, none⟩) od.length cap) od) (hl : Sl w (.slice (some ⟨b', off', none⟩) ln.length cap') ln) (z : ByteArray) (hz : Hid (z.data.toList = (Ck.mk g ep l v od ln).enc)) :
    Calls Try.prog 10 #[.agg #[.int .u64 g, .int .u32 ep, .int .u64 l, .int .u64 v, .slice (some ⟨b, off, none⟩) od.length cap, .slice (some ⟨b', off', none⟩) ln.length cap']] w fun e w' => e = .returned (.tuple #[.string z, .int .i64 0]) ∧ Below w.heap.size w w' := by
  have hr := fun (W : World) (a : Sl W (.slice (some ⟨b, off, none⟩) od.length cap) od) (b : Sl W (.slice (some ⟨b', off', none⟩) ln.length cap') ln) => Right_val (Ck.mk g ep l v od ln) _ _ W hk a b true (Lib.hid (decide_eq_true h).symm)
  obtain ⟨hg, hep, hlsn, hver, _, _, _, _⟩ := hk
  obtain ⟨_, _, hne, h16, hlen, hor, hlr, _⟩ := h
  simp only [] at hg hep hlsn hver hne h16 hlen hor hlr
  obtain ⟨n, hn⟩ : ∃ n, n = od.length := ⟨_, rfl⟩
  have hn2 : ln.length = n := by omega
  have hn16 : n ≤ 16 := by omega
  have key := fun k (h : k ≤ n) => (Ck.mk g ep l v od ln).pairs_length hlen k (by show k ≤ od.length; omega)
  have hbl := (Ck.mk g ep l v od ln).body_length hlen h16
  obtain ⟨c, hc⟩ : ∃ c, c = Ck.mk g ep l v od ln := ⟨_, rfl⟩
  rw [← hc] at key hz hbl
  obtain ⟨p1, hp1⟩ : ∃ p, p = wput g 8 := ⟨_, rfl⟩
  obtain ⟨p2, hp2⟩ : ∃ p, p = wput ep 4 := ⟨_, rfl⟩
  obtain ⟨p3, hp3⟩ : ∃ p, p = wput l 8 := ⟨_, rfl⟩
  obtain ⟨p4, hp4⟩ : ∃ p, p = wput v 8 := ⟨_, rfl⟩
  obtain ⟨R, hR⟩ : ∃ R, R = c.crc := ⟨_, rfl⟩
  obtain ⟨p5, hp5⟩ : ∃ p, p = wput R.toNat 4 := ⟨_, rfl⟩
  obtain ⟨zb, hzb⟩ : ∃ p : ByteArray, p = ⟨c.body.toArray⟩ := ⟨_, rfl⟩
  have s1 : p1.size = 8 := by rw [hp1, wput_size]
  have s2 : p2.size = 4 := by rw [hp2, wput_size]
  have s3 : p3.size = 8 := by rw [hp3, wput_size]
  have s4 : p4.size = 8 := by rw [hp4, wput_size]
  have s5 : p5.size = 4 := by rw [hp5, wput_size]
  have sb : zb.size = 116 := by rw [hzb]; show c.body.toArray.size = 116; rw [List.size_toArray]; exact hbl
  have hRl : R.toNat < 4294967296 := R.isLt
  have f1 := fun W => Put_val g 8 W p1 hg (Lib.hid (by rw [hp1]; rfl))
  have f2 := fun W => Put_val ep 4 W p2 (by omega) (Lib.hid (by rw [hp2]; rfl))
  have f3 := fun W => Put_val l 8 W p3 hlsn (Lib.hid (by rw [hp3]; rfl))
  have f4 := fun W => Put_val v 8 W p4 hver (Lib.hid (by rw [hp4]; rfl))
  have f5 := fun W => Put_val R.toNat 4 W p5 (by omega) (Lib.hid (by rw [hp5]; rfl))
  have fs := fun W => Sum_val zb W R (by omega) (Lib.hid (by rw [hR, hzb]; rfl))
  have F1 := Lib.hid f1
  have F2 := Lib.hid f2
  have F3 := Lib.hid f3
  have F4 := Lib.hid f4
  have F5 := Lib.hid f5
  have FS := Lib.hid fs
  have HR := Lib.hid hr
  have HO := Lib.hid ho
  have HL := Lib.hid hl
  have C1 := Lib.hid hc1
  have C2 := Lib.hid hc2
  have HC := Lib.hid hc
  have D1 := Lib.hid (show p1.data.toList = wl g 8 by rw [hp1, wput_data])
  have D2 := Lib.hid (show p2.data.toList = wl ep 4 by rw [hp2, wput_data])
  have D3 := Lib.hid (show p3.data.toList = wl l 8 by rw [hp3, wput_data])
  have D4 := Lib.hid (show p4.data.toList = wl v 8 by rw [hp4, wput_data])
  have D5 := Lib.hid (show p5.data.toList = wl c.crc.toNat 4 by rw [hp5, wput_data, hR])
  have DB := Lib.hid (show zb = ⟨c.body.toArray⟩ from hzb)
  have KEY := Lib.hid key
  have HOR := Lib.hid hor
  have HLR := Lib.hid hlr
  have HNN := Lib.hid hn
  have HBL := Lib.hid hbl
  have HN2 := Lib.hid hn2
  rw [← hn]
  rw [← hn] at HR HO
  rw [hn2]
  rw [hn2] at HR HL
  have hsz := sec_zero
  clear f1 f2 f3 f4 f5 fs hr ho hl hc1 hc2 hc hp1 hp2 hp3 hp4 hp5 hR key hor hlr hn hn2 hne h16 hlen hzb hbl
  obtain ⟨O, hO⟩ : ∃ O, O = Obj.cells #[.int .u64 g, .int .u32 ep, .int .u64 l, .int .u64 v, .slice (some ⟨b, off, none⟩) n cap, .slice (some ⟨b', off', none⟩) n cap'] 26 := ⟨_, rfl⟩
  have hb0 := (Below.refl w.heap.size w).alloc (Nat.le_refl _) O
  have hA := heap_alloc_new w O
  have hS : (w.alloc O).heap.size = w.heap.size + 1 := by show (w.heap.push O).size = _; rw [Array.size_push]
  have HA := Lib.hid hA
  have HS := Lib.hid hS
  have HO2 := Lib.hid hO
  clear hA hS
  subst hO
  go_enter Try.func10, Try.ntmps10
  go_wp2_with fail
  refine (HR.out _ (HO.out.below hb0 (Nat.le_refl _)) (HL.out.below hb0 (Nat.le_refl _))).mono ?_; rintro e w1 ⟨rfl, hb1⟩
  have hI0 : EI w (w1.alloc (.cells (bvs (padTo [])).toArray 55)) w1.heap.size #[.int .u64 g, .int .u32 ep, .int .u64 l, .int .u64 v, .slice (some ⟨b, off, none⟩) n cap, .slice (some ⟨b', off', none⟩) n cap'] (padTo []) := by
    have h1 : (w.alloc (Obj.cells #[.int .u64 g, .int .u32 ep, .int .u64 l, .int .u64 v, .slice (some ⟨b, off, none⟩) n cap, .slice (some ⟨b', off', none⟩) n cap'] 26)).heap.size ≤ w1.heap.size := hb1.size
    have h2 := HS.out
    refine ⟨heap_alloc_new _ _, padTo_length _ (by simp), ?_, (below_step hb0 hb1).alloc (by omega) _, by omega⟩
    rw [heap_alloc_old _ _ (by omega), hb1.block _ (by omega), HA.out]
  have cc0 := (cell_of_row _ _ 0 _ _ _ hI0.c0).trans (show _ = some (Value.int .u64 g) from rfl)
  go_wp2_with fail
  clear cc0
  refine (F1.out _).mono ?_; rintro e wa0 ⟨rfl, hb⟩
  have hJ := hI0.below hb
  clear hI0 hb
  go_wp2_with fail
  refine (put_ei hJ 0 p1 (by simp [wl_length]) (by omega) (by omega)).mono ?_; rintro e wb0 ⟨rfl, hI1⟩
  clear hJ
  rw [D1.out] at hI1
  have cc1 := (cell_of_row _ _ 1 _ _ _ hI1.c0).trans (show _ = some (Value.int .u32 ep) from rfl)
  go_wp2_with fail
  clear cc1
  refine (F2.out _).mono ?_; rintro e wa1 ⟨rfl, hb⟩
  have hJ := hI1.below hb
  clear hI1 hb
  go_wp2_with fail
  refine (put_ei hJ 8 p2 (by simp [wl_length]) (by omega) (by omega)).mono ?_; rintro e wb1 ⟨rfl, hI2⟩
  clear hJ
  rw [D2.out] at hI2
  have cc2 := (cell_of_row _ _ 2 _ _ _ hI2.c0).trans (show _ = some (Value.int .u64 l) from rfl)
  go_wp2_with fail
  clear cc2
  refine (F3.out _).mono ?_; rintro e wa2 ⟨rfl, hb⟩
  have hJ := hI2.below hb
  clear hI2 hb
  go_wp2_with fail
  refine (put_ei hJ 12 p3 (by simp [wl_length]) (by omega) (by omega)).mono ?_; rintro e wb2 ⟨rfl, hI3⟩
  clear hJ
  rw [D3.out] at hI3
  have cc3 := (cell_of_row _ _ 3 _ _ _ hI3.c0).trans (show _ = some (Value.int .u64 v) from rfl)
  go_wp2_with fail
  clear cc3
  refine (F4.out _).mono ?_; rintro e wa3 ⟨rfl, hb⟩
  have hJ := hI3.below hb
  clear hI3 hb
  go_wp2_with fail
  refine (put_ei hJ 20 p4 (by simp [wl_length]) (by omega) (by omega)).mono ?_; rintro e wb3 ⟨rfl, hI4⟩
  clear hJ
  rw [D4.out] at hI4
  have cc4 := (cell_of_row _ _ 4 _ _ _ hI4.c0).trans (show _ = some (Value.slice (some ⟨b, off, none⟩) n cap) from rfl)
  have hfr := hI4.frozen 28
  have hcell := hI4.cell 28 (by omega)
  have hwn : IntKind.u8.wrap (n : Int) = (n : Int) := IntWalk.u8_in _ (by omega)
  have un := u8i_int (n : Int) (by omega) (by omega)
  have hI5 := hI4.set 28 (u8i n) (by omega)
  rw [un] at hI5
  have e5 : (padTo ([] ++ wl g 8 ++ wl ep 4 ++ wl l 8 ++ wl v 8)).set 28 (u8i n) = padTo (c.hdr ++ c.pairs 0) := by
    have h28 : ([] ++ wl g 8 ++ wl ep 4 ++ wl l 8 ++ wl v 8).length = 28 := by simp [wl_length]
    have := set_pad ([] ++ wl g 8 ++ wl ep 4 ++ wl l 8 ++ wl v 8) (u8i n) (by omega)
    rw [h28] at this
    rw [this, HC.out]
    simp [Ck.hdr, Ck.pairs, HNN.out]
  rw [e5] at hI5
  go_wp2_with fail
  clear hfr hcell hI4 e5 cc4
  have hgt : w.heap.size < w1.heap.size := hI5.gt
  go_loopw [35] (fun i wr => ∃ k : Nat, k ≤ n ∧ i = .int .i64 k ∧ EI w wr w1.heap.size #[.int .u64 g, .int .u32 ep, .int .u64 l, .int .u64 v, .slice (some ⟨b, off, none⟩) n cap, .slice (some ⟨b', off', none⟩) n cap'] (padTo (c.hdr ++ c.pairs k))) (fun i _ => n - (intOf i).toNat)
  case atStart => exact ⟨0, by omega, rfl, hI5⟩
  case round =>
    obtain ⟨k, hk, rfl, hI⟩ := hrel
    clear hI5
    have hlk : (c.hdr ++ c.pairs k).length = 29 + 2 * k := by rw [List.length_append, Ck.hdr_length, KEY.out k hk]
    by_cases hlt : k < n
    · have hlo : k < od.length := by have := HNN.out; omega
      have hll : k < ln.length := by have := HN2.out; omega
      obtain ⟨x, hx⟩ : ∃ x, x = od[k] := ⟨_, rfl⟩
      obtain ⟨y, hy⟩ : ∃ y, y = ln[k] := ⟨_, rfl⟩
      have hxr : 0 ≤ x ∧ x < 16 := by rw [hx]; exact HOR.out _ (List.getElem_mem _)
      have hyr : 0 ≤ y ∧ y ≤ 30 := by rw [hy]; exact HLR.out _ (List.getElem_mem _)
      have r1 := hI.bel.cell (p := ⟨b, off + k, none⟩) (block_lt_of_cell (C1.out k hlo))
      have r2 := hI.bel.cell (p := ⟨b', off' + k, none⟩) (block_lt_of_cell (C2.out k hll))
      rw [C1.out k hlo, ← hx] at r1
      rw [C2.out k hll, ← hy] at r2
      have c4 := (cell_of_row _ _ 4 _ _ _ hI.c0).trans (show _ = some (Value.slice (some ⟨b, off, none⟩) n cap) from rfl)
      have c5 := (cell_of_row _ _ 5 _ _ _ hI.c0).trans (show _ = some (Value.slice (some ⟨b', off', none⟩) n cap') from rfl)
      have ux := u8i_int x hxr.1 (by omega)
      have uy := u8i_int y hyr.1 (by omega)
      have wx : IntKind.u8.wrap x = x := IntWalk.u8_in _ (by omega)
      have wy : IntKind.u8.wrap y = y := IntWalk.u8_in _ (by omega)
      have hI1 := hI.set (29 + 2 * k) (u8i x) (by omega)
      have hI2 := hI1.set (29 + 2 * k + 1) (u8i y) (by omega)
      rw [ux] at hI1
      rw [ux, uy] at hI2
      have hc1 := hI.cell (29 + 2 * k) (by omega)
      have hf1 := hI.frozen (29 + 2 * k)
      have hc2 := hI1.cell (29 + 2 * k + 1) (by omega)
      have hf2 := hI1.frozen (29 + 2 * k + 1)
      have eL : ((padTo (c.hdr ++ c.pairs k)).set (29 + 2 * k) (u8i x)).set (29 + 2 * k + 1) (u8i y) = padTo (c.hdr ++ c.pairs (k + 1)) := by
        have a1 := set_pad (c.hdr ++ c.pairs k) (u8i x) (by omega)
        rw [hlk] at a1
        have a2 := set_pad (c.hdr ++ c.pairs k ++ [u8i x]) (u8i y) (by rw [List.length_append, hlk, List.length_singleton]; omega)
        rw [List.length_append, hlk, List.length_singleton] at a2
        rw [a1, a2]
        have hp := c.pairs_next k (by rw [HC.out]; exact hlo) (by rw [HC.out]; exact hll)
        rw [hp]
        have e1 : c.order[k]'(by rw [HC.out]; exact hlo) = x := by rw [hx]; simp only [HC.out]
        have e2 : c.lens[k]'(by rw [HC.out]; exact hll) = y := by rw [hy]; simp only [HC.out]
        rw [e1, e2]
        simp
      rw [eL] at hI2
      have HX := Lib.hid hx
      have HY := Lib.hid hy
      clear hx hy eL ux uy
      go_wp2_with fail
      go_roundw
      case rel => exact ⟨k + 1, by omega, by go_num, hI2⟩
      case measure => simp [intOf]; omega
    · obtain rfl : k = n := by omega
      have hbl : c.body.length = 116 := HBL.out
      have eB : padTo (c.hdr ++ c.pairs k) = padTo c.body := by
        have h1 := pad_zeros (c.hdr ++ c.pairs k) 116 (by omega) (by omega)
        rw [h1, hlk]
        have h2 : c.order.length = k := by rw [HC.out]; exact HNN.out.symm
        unfold Ck.body
        rw [h2]
      rw [eB] at hI
      have tk : (padTo c.body).take 116 = c.body := by
        unfold padTo
        rw [← hbl, List.take_left]
      have hcv := hI.string 116 128 (by omega) zb (by rw [tk]; exact DB.out)
      clear eB tk
      go_wp2_with fail
      refine (FS.out _).mono ?_; rintro e wa ⟨rfl, hb⟩
      have hJ := hI.below hb
      clear hI hb hcv
      go_wp2_with fail
      refine (F5.out _).mono ?_; rintro e wb ⟨rfl, hb⟩
      have hI := hJ.below hb
      clear hJ hb
      go_wp2_with fail
      refine (put_ei hI 116 p5 (by rw [hbl]) (by omega) (by omega)).mono ?_; rintro e wc ⟨rfl, hJ⟩
      rw [D5.out] at hJ
      clear hI
      have c0 := (cell_of_row _ _ 0 _ _ _ hJ.c0).trans (show _ = some (Value.int .u64 g) from rfl)
      go_wp2_with fail
      clear c0
      refine (F1.out _).mono ?_; rintro e wd ⟨rfl, hb⟩
      have hI := hJ.below hb
      clear hJ hb
      go_wp2_with fail
      refine (put_ei hI 120 p1 (by rw [List.length_append, hbl, wl_length]) (by omega) (by omega)).mono ?_; rintro e we ⟨rfl, hJ⟩
      rw [D1.out] at hJ
      clear hI
      have eZ : z = ⟨((padTo (c.body ++ wl c.crc.toNat 4 ++ wl g 8)).take 128).toArray⟩ := by
        have h1 := hz.out
        have h2 : (c.body ++ wl c.crc.toNat 4 ++ wl g 8).length = 128 := by rw [List.length_append, List.length_append, hbl, wl_length, wl_length]
        rw [padTo_whole _ h2, List.take_of_length_le (by omega)]
        apply ByteArray.ext
        apply Array.ext'
        rw [h1]
        unfold Ck.enc
        have h3 : c.gen = g := by rw [HC.out]
        rw [h3]
      have hcv := hJ.string 128 128 (by omega) z eZ
      clear eZ
      go_wp2_with fail
      go_ret2
      exact ⟨rfl, hJ.bel⟩

/-- Encode: its sector, or what is wrong -/
def Ck.out (c : Ck) : ByteArray := if c.Right then ⟨c.enc.toArray⟩ else ⟨#[]⟩
def Ck.err (c : Ck) : Int := if c.Right then 0 else 5
theorem Encode_val (c : Ck) (vo vl : Value) (w : World) (hk : c.Kind) (ho : Sl w vo c.order) (hl : Sl w vl c.lens) (z : ByteArray) (x : Int) (hz : Hid (z = c.out)) (hx : Hid (x = c.err)) :
    Calls Try.prog 10 #[c.val vo vl] w fun e w' => e = .returned (.tuple #[.string z, .int .i64 x]) ∧ Below w.heap.size w w' := by
  by_cases h : c.Right
  · have e1 : x = 0 := by rw [hx.out]; exact if_pos h
    have e2 : z.data.toList = c.enc := by rw [hz.out]; unfold Ck.out; rw [if_pos h]
    subst e1
    have h' := h
    obtain ⟨_, _, hne, _, hlen, _⟩ := h'
    have ho' := ho
    have hl' := hl
    rcases ho with ⟨h0, _⟩ | ⟨_, b, off, cap, rfl, _, hc1⟩
    · exact absurd h0 hne
    · rcases hl with ⟨h0, _⟩ | ⟨_, b', off', cap', rfl, _, hc2⟩
      · exfalso
        rw [h0] at hlen
        exact hne (List.length_eq_zero_iff.1 hlen.symm)
      · exact Encode_right c.gen c.ep c.lsn c.ver c.order c.lens b off cap b' off' cap' w hk h hc1 hc2 ho' hl' z e2
  · have e1 : x = 5 := by rw [hx.out]; exact if_neg h
    have e2 : z = ⟨#[]⟩ := by rw [hz.out]; unfold Ck.out; rw [if_neg h]
    subst e1 e2
    exact Encode_not c vo vl w hk ho hl h
end Go.Proofs.Ytieijelbflkpeaa.G
