/- The index: the fixed calls. -/
import Derived.Test.YthpompgcnemanaaIw
namespace Go.Proofs.Ythpompgcnemanaa.G
open Go.RowKit Go.Maps Go.Proofs Go.Proofs.Ythpompgcnemanaa.WordPlain Go.Proofs.Ythpompgcnemanaa.Loose
set_option linter.unusedVariables false
set_option linter.unusedSimpArgs false

def gN7 : ByteArray → Option Ent := killN fN6 ⟨#[97]⟩
def gN8 : ByteArray → Option Ent := killN gN7 ⟨#[97]⟩
def gN9 : ByteArray → Option Ent := goneN1 gN8 fQ6 0
def gQ9 : Plc → Option ByteArray := goneQ1 fQ6 0
theorem gN7_en : En gN7 [(⟨#[97]⟩, ⟨2, 0, false, 32, 0, 1⟩), (⟨#[98]⟩, ⟨7, 5, true, 34, 1, 1⟩)] := by
  have e : gN7 = updM fN6 ⟨#[97]⟩ (some ⟨2, 0, false, 32, 0, 1⟩) := by
    unfold gN7 killN
    rw [show fN6 ⟨#[97]⟩ = some ⟨2, 0, true, 32, 0, 1⟩ by decide]
    rfl
  rw [e]
  have h := fN_en.put ⟨#[97]⟩ ⟨2, 0, false, 32, 0, 1⟩
  have e2 : ((⟨#[97]⟩ : ByteArray), (⟨2, 0, false, 32, 0, 1⟩ : Ent)) :: fNl.filter (fun p => !decide (p.1 = ⟨#[97]⟩)) = [(⟨#[97]⟩, ⟨2, 0, false, 32, 0, 1⟩), (⟨#[98]⟩, ⟨7, 5, true, 34, 1, 1⟩)] := by decide
  rw [e2] at h
  exact h
theorem gN8_is : gN8 = gN7 := by
  unfold gN8
  unfold killN
  rw [show gN7 ⟨#[97]⟩ = some ⟨2, 0, false, 32, 0, 1⟩ from (gN7_en.2 _ _).1 (List.mem_cons_self ..)]
  rfl
theorem gN9_en : En gN9 [(⟨#[98]⟩, ⟨7, 5, true, 34, 1, 1⟩)] := by
  unfold gN9
  rw [gN8_is]
  have h := gN7_en.goneN (Q := fQ6) 0
  have e : List.filter (fun p => !decide (p.2.seg = 0 ∧ fQ6 p.2.at_ = some p.1)) [((⟨#[97]⟩ : ByteArray), (⟨2, 0, false, 32, 0, 1⟩ : Ent)), (⟨#[98]⟩, ⟨7, 5, true, 34, 1, 1⟩)] = [(⟨#[98]⟩, ⟨7, 5, true, 34, 1, 1⟩)] := by decide
  rw [e] at h
  exact h
theorem gQ9_en : En gQ9 [((1, 1), ⟨#[98]⟩), ((1, 0), ⟨#[97]⟩)] := by
  have h := fQ_en.goneQ 0
  have e : List.filter (fun p => !decide (p.1.1 = 0)) fQl = [((1, 1), ⟨#[98]⟩), ((1, 0), ⟨#[97]⟩)] := by decide
  rw [e] at h
  exact h
theorem gone_a : gN9 ⟨#[97]⟩ = none := by
  cases h : gN9 ⟨#[97]⟩ with
  | none => rfl
  | some s => have := (gN9_en.2 _ _).2 h; simp at this
theorem gK9 {ks : List ByteArray} (h : KeysL gN9 ks) : ks.filter (livB gN9) = [⟨#[98]⟩] := by
  have h2 : KeysL gN9 [⟨#[98]⟩] := ⟨List.pairwise_singleton _ _, fun k => by rw [gN9_en.mem]; rfl⟩
  rw [keysL_uniq h h2]
  have e : livB gN9 ⟨#[98]⟩ = true := by unfold livB; rw [(gN9_en.2 _ _).1 (List.mem_singleton.2 rfl)]; rfl
  rw [List.filter_cons_of_pos e]; rfl
theorem lit_K (w : World) (s : ByteArray) : LR 1 encK (w.alloc (.cells #[.string s] (9 : Nat))) (.slice (some ⟨w.heap.size, 0, none⟩) 1 1) [s] :=
  ⟨_, 1, rfl, fun _ => Nat.le_refl _, fun i hi => ⟨w.heap.size, 0, rfl, fun j u hu => by
    have hi0 : i = 0 := by simp at hi; omega
    subst hi0
    match j, hu with
    | 0, hu => exact ((cell_of_row _ _ 0 _ _ _ (heap_alloc_new w _)).trans rfl).trans hu
    | j + 1, hu => simp at hu⟩⟩
theorem f_sz {i : ByteArray} {s : Ent} (h : fN6 i = some s) : 0 ≤ s.sz ∧ s.sz ≤ 4000000 := fN_en.all (P := fun p => 0 ≤ p.2.sz ∧ p.2.sz ≤ 4000000) (by decide) i s h
theorem f_qs {p : Plc} {s : ByteArray} (h : fQ6 p = some s) : s.size ≤ 140737488351232 := fQ_en.all (P := fun p => p.2.size ≤ 140737488351232) (by decide) p s h
theorem g_ns {i : ByteArray} {s : Ent} (h : gN9 i = some s) : i.size ≤ 140737488351232 := gN9_en.all (P := fun p => p.1.size ≤ 140737488351232) (by decide) i s h
set_option maxRecDepth 100000 in
set_option maxHeartbeats 16000000 in
theorem fixed_val (w : World) : Calls Try.prog 11 #[] w fun e w' => e = .returned (.bool true) ∧ Below w.heap.size w w' := by
  go_enter Try.func11, Try.ntmps11
  go_wp2_with fail
  refine (INew_val w).mono ?_; rintro e w1 ⟨⟨X, bn, bp, rfl, hix, hX, hbn, hbp⟩, hb⟩
  have IX1 : Hid (Ix w1 X bn bp 0 0 fN0 fQ0) := Lib.hid hix
  have BB1 := Lib.hid hb
  have HBN := Lib.hid hbn
  have HBP := Lib.hid hbp
  clear hix hX hbn hbp hb
  have a := IAdd_val w1 X bn bp 0 0 fN0 fQ0 fr1 (0, 0) IX1.out (by decide) (by decide) ⟨by decide, by decide⟩ (by decide) (by decide)
  rw [fB1] at a
  have AA := Lib.hid a
  clear a
  go_wp2_with fail
  refine AA.out.mono ?_; rintro e w2 ⟨rfl, hix, hmq⟩
  have IX2 : Hid (Ix w2 X bn bp 1 1 fN1 fQ1) := Lib.hid hix
  have BB2 := Lib.hid (BB1.out.trans (hmq.below HBN.out HBP.out BB1.out.size))
  clear hix hmq AA
  have a := IAdd_val w2 X bn bp 1 1 fN1 fQ1 fr2 (0, 1) IX2.out (by decide) (by decide) ⟨by decide, by decide⟩ (by decide) (by decide)
  rw [fB2] at a
  have AA := Lib.hid a
  clear a
  go_wp2_with fail
  refine AA.out.mono ?_; rintro e w3 ⟨rfl, hix, hmq⟩
  have IX3 : Hid (Ix w3 X bn bp 2 2 fN2 fQ2) := Lib.hid hix
  have BB3 := Lib.hid (BB2.out.trans (hmq.below HBN.out HBP.out BB2.out.size))
  clear hix hmq AA
  have a := IAdd_val w3 X bn bp 2 2 fN2 fQ2 fr3 (1, 0) IX3.out (by decide) (by decide) ⟨by decide, by decide⟩ (by decide) (by decide)
  rw [fB3] at a
  have AA := Lib.hid a
  clear a
  go_wp2_with fail
  refine AA.out.mono ?_; rintro e w4 ⟨rfl, hix, hmq⟩
  have IX4 : Hid (Ix w4 X bn bp 3 3 fN3 fQ3) := Lib.hid hix
  have BB4 := Lib.hid (BB3.out.trans (hmq.below HBN.out HBP.out BB3.out.size))
  clear hix hmq AA
  have a := IAdd_val w4 X bn bp 3 3 fN3 fQ3 fr4 (1, 0) IX4.out (by decide) (by decide) ⟨by decide, by decide⟩ (by decide) (by decide)
  rw [fB4] at a
  have AA := Lib.hid a
  clear a
  go_wp2_with fail
  refine AA.out.mono ?_; rintro e w5 ⟨rfl, hix, hmq⟩
  have IX5 : Hid (Ix w5 X bn bp 4 4 fN4 fQ4) := Lib.hid hix
  have BB5 := Lib.hid (BB4.out.trans (hmq.below HBN.out HBP.out BB4.out.size))
  clear hix hmq AA
  have a := IAdd_val w5 X bn bp 4 4 fN4 fQ4 fr5 (2, 0) IX5.out (by decide) (by decide) ⟨by decide, by decide⟩ (by decide) (by decide)
  rw [fB5] at a
  have AA := Lib.hid a
  clear a
  go_wp2_with fail
  refine AA.out.mono ?_; rintro e w6 ⟨rfl, hix, hmq⟩
  have IX6 : Hid (Ix w6 X bn bp 5 5 fN5 fQ5) := Lib.hid hix
  have BB6 := Lib.hid (BB5.out.trans (hmq.below HBN.out HBP.out BB5.out.size))
  clear hix hmq AA
  have a := IAdd_val w6 X bn bp 5 5 fN5 fQ5 fr6 (1, 1) IX6.out (by decide) (by decide) ⟨by decide, by decide⟩ (by decide) (by decide)
  rw [fB6] at a
  have AA := Lib.hid a
  clear a
  go_wp2_with fail
  refine AA.out.mono ?_; rintro e w7 ⟨rfl, hix, hmq⟩
  have IX7 : Hid (Ix w7 X bn bp 6 6 fN6 fQ6) := Lib.hid hix
  have BB7 := Lib.hid (BB6.out.trans (hmq.below HBN.out HBP.out BB6.out.size))
  clear hix hmq AA
  have a := INewest_val w7 X bn bp 6 6 fN6 fQ6 ⟨#[97]⟩ IX7.out (by decide)
  rw [show (fN6 ⟨#[97]⟩).getD Ent.zero = ⟨2, 0, true, 32, 0, 1⟩ by decide, show (fN6 ⟨#[97]⟩).isSome = true by decide] at a
  have AA : Hid (Calls Try.prog 16 #[.pointer (some ⟨X, 0, none⟩), .string ⟨#[97]⟩] w7 fun e w' => e = .returned (.tuple #[.agg #[.int .u64 2, .int .u64 0, .bool true, .int .i64 32, .int .i64 0, .int .i64 1], .bool true]) ∧ Below w7.heap.size w7 w') := Lib.hid a
  clear a
  go_wp2_with fail
  refine AA.out.mono ?_; rintro e w8 ⟨rfl, hb⟩
  obtain ⟨w9, hw⟩ : ∃ W, W = w8.alloc (.cells #[.int .u64 2, .int .u64 0, .bool true, .int .i64 32, .int .i64 0, .int .i64 1] (49 : Nat)) := ⟨_, rfl⟩
  have hbb : Below w7.heap.size w7 w9 := stepR hb (by rw [hw]; exact (Below.refl _ _).alloc (Nat.le_refl _) _)
  have IX9 := Lib.hid (IX7.out.below hbb)
  have BB9 := Lib.hid (stepR BB7.out hbb)
  have HB79 := Lib.hid hbb
  have HW9 := Lib.hid hw
  have NEB9 : Hid (w8.heap.size ≠ bn ∧ w8.heap.size ≠ bp) := Lib.hid (by have h1 := (IX7.out.below hb).lts; omega)
  have ROW9 : Hid (w9.heap[w8.heap.size]? = some (.cells #[.int .u64 2, .int .u64 0, .bool true, .int .i64 32, .int .i64 0, .int .i64 1] (49 : Nat) (0, 0))) := Lib.hid (by rw [hw]; exact heap_alloc_new _ _)
  clear hb hw hbb AA
  go_wp2_with fail
  rw [← HW9.out]
  have a := INewest_val w9 X bn bp 6 6 fN6 fQ6 ⟨#[99]⟩ IX9.out (by decide)
  rw [show (fN6 ⟨#[99]⟩).getD Ent.zero = Ent.zero by decide, show (fN6 ⟨#[99]⟩).isSome = false by decide] at a
  have AA : Hid (Calls Try.prog 16 #[.pointer (some ⟨X, 0, none⟩), .string ⟨#[99]⟩] w9 fun e w' => e = .returned (.tuple #[.agg #[.int .u64 0, .int .u64 0, .bool false, .int .i64 0, .int .i64 0, .int .i64 0], .bool false]) ∧ Below w9.heap.size w9 w') := Lib.hid a
  clear a
  go_wp2_with fail
  refine AA.out.mono ?_; rintro e w10 ⟨rfl, hb⟩
  obtain ⟨w11, hw⟩ : ∃ W, W = w10.alloc (.cells #[.int .u64 0, .int .u64 0, .bool false, .int .i64 0, .int .i64 0, .int .i64 0] (49 : Nat)) := ⟨_, rfl⟩
  have hbb : Below w9.heap.size w9 w11 := stepR hb (by rw [hw]; exact (Below.refl _ _).alloc (Nat.le_refl _) _)
  have IX11 := Lib.hid (IX9.out.below hbb)
  have BB11 := Lib.hid (stepR BB9.out hbb)
  have HB911 := Lib.hid hbb
  have HW11 := Lib.hid hw
  have NEB11 : Hid (w10.heap.size ≠ bn ∧ w10.heap.size ≠ bp) := Lib.hid (by have h1 := (IX9.out.below hb).lts; omega)
  have ROW11 : Hid (w11.heap[w10.heap.size]? = some (.cells #[.int .u64 0, .int .u64 0, .bool false, .int .i64 0, .int .i64 0, .int .i64 0] (49 : Nat) (0, 0))) := Lib.hid (by rw [hw]; exact heap_alloc_new _ _)
  clear hb hw hbb AA
  go_wp2_with fail
  rw [← HW11.out]
  have MM9 := Lib.hid (Mq.refl bn bp w9)
  have MM11 := Lib.hid (MM9.out.trans (Mq.of_below (show Below w9.heap.size w9 w11 from HB911.out)))
  have a := IAt_val w11 X bn bp 6 6 fN6 fQ6 (1, 0) IX11.out ⟨by decide, by decide⟩
  rw [show (fQ6 (1, 0)).getD ⟨#[]⟩ = ⟨#[97]⟩ by decide, show (fQ6 (1, 0)).isSome = true by decide] at a
  have AA := Lib.hid a
  clear a
  go_wp2_with fail
  refine AA.out.mono ?_; rintro e w12 ⟨rfl, hb⟩
  have IX12 := Lib.hid (IX11.out.below hb)
  have BB12 := Lib.hid (stepR BB11.out hb)
  have MM12 := Lib.hid (MM11.out.trans (Mq.of_below hb))
  clear hb AA
  have AA := Lib.hid (IIn_val w12 X bn bp 6 6 fN6 fQ6 0 IX12.out (by decide) (fun i s h => f_sz h))
  go_wp2_with fail
  refine AA.out.mono ?_; rintro e w13 ⟨⟨c1, c2, c3, rfl, hs⟩, hb⟩
  obtain ⟨h1, h2, h3⟩ := hs fNl fN_en
  obtain rfl : c1 = 1 := h1.trans (by decide)
  obtain rfl : c2 = 1 := h2.trans (by decide)
  obtain rfl : c3 = 32 := h3.trans (by decide)
  clear h1 h2 h3 hs
  have IX13 := Lib.hid (IX12.out.below hb)
  have BB13 := Lib.hid (stepR BB12.out hb)
  have MM13 := Lib.hid (MM12.out.trans (Mq.of_below hb))
  clear hb AA
  have AA := Lib.hid (IOthers_val w13 X bn bp 6 6 fN6 fQ6 ⟨#[97]⟩ 1 IX13.out (by decide))
  go_wp2_with fail
  refine AA.out.mono ?_; rintro e w14 ⟨⟨c, rfl, hs⟩, hb⟩
  obtain rfl : c = 2 := (hs fQl fQ_en).trans (by decide)
  clear hs
  have IX14 := Lib.hid (IX13.out.below hb)
  have BB14 := Lib.hid (stepR BB13.out hb)
  have MM14 := Lib.hid (MM13.out.trans (Mq.of_below hb))
  clear hb AA
  have a := IKill_val w14 X bn bp 6 6 fN6 fQ6 ⟨#[97]⟩ IX14.out (by decide) (by decide)
  rw [show killB fN6 ⟨#[97]⟩ = true from by decide] at a
  have AA := Lib.hid a
  clear a
  go_wp2_with fail
  refine AA.out.mono ?_; rintro e w15 ⟨rfl, hix, hmq⟩
  have IX15 : Hid (Ix w15 X bn bp 7 6 gN7 fQ6) := Lib.hid hix
  have BB15 := Lib.hid (BB14.out.trans (hmq.below HBN.out HBP.out BB14.out.size))
  have MM15 := Lib.hid (MM14.out.trans hmq)
  clear hix hmq AA
  have a := IKill_val w15 X bn bp 7 6 gN7 fQ6 ⟨#[97]⟩ IX15.out (by decide) (by decide)
  rw [show killB gN7 ⟨#[97]⟩ = false from by unfold killB; rw [(gN7_en.2 _ _).1 (List.mem_cons_self ..)]] at a
  have AA := Lib.hid a
  clear a
  go_wp2_with fail
  refine AA.out.mono ?_; rintro e w16 ⟨rfl, hix, hmq⟩
  have IX16 : Hid (Ix w16 X bn bp 8 6 gN8 fQ6) := Lib.hid hix
  have BB16 := Lib.hid (BB15.out.trans (hmq.below HBN.out HBP.out BB15.out.size))
  have MM16 := Lib.hid (MM15.out.trans hmq)
  clear hix hmq AA
  have AA := Lib.hid (IGone_val w16 X bn bp 8 6 gN8 fQ6 0 IX16.out (by decide) (fun p s h => f_qs h))
  go_wp2_with fail
  refine AA.out.mono ?_; rintro e w17 ⟨⟨c, rfl, hs⟩, hix, hmq⟩
  obtain rfl : c = 2 := (hs fQl fQ_en).trans (by decide)
  have IX17 : Hid (Ix w17 X bn bp 8 6 gN9 gQ9) := Lib.hid hix
  have BB17 := Lib.hid (BB16.out.trans (hmq.below HBN.out HBP.out BB16.out.size))
  have MM17 := Lib.hid (MM16.out.trans hmq)
  clear hix hmq AA hs
  have a := INewest_val w17 X bn bp 8 6 gN9 gQ9 ⟨#[97]⟩ IX17.out (by decide)
  rw [show gN9 ⟨#[97]⟩ = none from gone_a] at a
  have AA : Hid (Calls Try.prog 16 #[.pointer (some ⟨X, 0, none⟩), .string ⟨#[97]⟩] w17 fun e w' => e = .returned (.tuple #[.agg #[.int .u64 0, .int .u64 0, .bool false, .int .i64 0, .int .i64 0, .int .i64 0], .bool false]) ∧ Below w17.heap.size w17 w') := Lib.hid a
  clear a
  go_wp2_with fail
  refine AA.out.mono ?_; rintro e w18 ⟨rfl, hb⟩
  obtain ⟨w19, hw⟩ : ∃ W, W = w18.alloc (.cells #[.int .u64 0, .int .u64 0, .bool false, .int .i64 0, .int .i64 0, .int .i64 0] (49 : Nat)) := ⟨_, rfl⟩
  have hbb : Below w17.heap.size w17 w19 := stepR hb (by rw [hw]; exact (Below.refl _ _).alloc (Nat.le_refl _) _)
  have IX19 := Lib.hid (IX17.out.below hbb)
  have BB19 := Lib.hid (stepR BB17.out hbb)
  have HB1719 := Lib.hid hbb
  have HW19 := Lib.hid hw
  have NEB19 : Hid (w18.heap.size ≠ bn ∧ w18.heap.size ≠ bp) := Lib.hid (by have h1 := (IX17.out.below hb).lts; omega)
  have ROW19 : Hid (w19.heap[w18.heap.size]? = some (.cells #[.int .u64 0, .int .u64 0, .bool false, .int .i64 0, .int .i64 0, .int .i64 0] (49 : Nat) (0, 0))) := Lib.hid (by rw [hw]; exact heap_alloc_new _ _)
  clear hb hw hbb AA
  have MM19 := Lib.hid (MM17.out.trans (Mq.of_below HB1719.out))
  have grow := MM19.out.row ROW9.out NEB9.out.1 NEB9.out.2
  have g0 : (w18.alloc (.cells #[.int .u64 0, .int .u64 0, .bool false, .int .i64 0, .int .i64 0, .int .i64 0] (49 : Nat))).cell? ⟨w8.heap.size, 0, none⟩ = some (.int .u64 2) := by rw [← HW19.out]; exact (cell_of_row _ _ 0 _ _ _ grow).trans rfl
  have g1 : (w18.alloc (.cells #[.int .u64 0, .int .u64 0, .bool false, .int .i64 0, .int .i64 0, .int .i64 0] (49 : Nat))).cell? ⟨w8.heap.size, 1, none⟩ = some (.int .u64 0) := by rw [← HW19.out]; exact (cell_of_row _ _ 1 _ _ _ grow).trans rfl
  have g2 : (w18.alloc (.cells #[.int .u64 0, .int .u64 0, .bool false, .int .i64 0, .int .i64 0, .int .i64 0] (49 : Nat))).cell? ⟨w8.heap.size, 2, none⟩ = some (.bool true) := by rw [← HW19.out]; exact (cell_of_row _ _ 2 _ _ _ grow).trans rfl
  have g3 : (w18.alloc (.cells #[.int .u64 0, .int .u64 0, .bool false, .int .i64 0, .int .i64 0, .int .i64 0] (49 : Nat))).cell? ⟨w8.heap.size, 3, none⟩ = some (.int .i64 32) := by rw [← HW19.out]; exact (cell_of_row _ _ 3 _ _ _ grow).trans rfl
  have g4 : (w18.alloc (.cells #[.int .u64 0, .int .u64 0, .bool false, .int .i64 0, .int .i64 0, .int .i64 0] (49 : Nat))).cell? ⟨w8.heap.size, 4, none⟩ = some (.int .i64 0) := by rw [← HW19.out]; exact (cell_of_row _ _ 4 _ _ _ grow).trans rfl
  have g5 : (w18.alloc (.cells #[.int .u64 0, .int .u64 0, .bool false, .int .i64 0, .int .i64 0, .int .i64 0] (49 : Nat))).cell? ⟨w8.heap.size, 5, none⟩ = some (.int .i64 1) := by rw [← HW19.out]; exact (cell_of_row _ _ 5 _ _ _ grow).trans rfl
  clear grow
  go_wp2_with fail
  rw [← HW19.out]
  clear g0 g1 g2 g3 g4 g5
  have AA := Lib.hid (ILives_val w19 X bn bp 8 6 gN9 gQ9 IX19.out (by decide) (fun i s h => g_ns h))
  refine AA.out.mono ?_; rintro e w20 ⟨⟨ks, rfl, hks, _⟩, hb⟩
  rw [gK9 hks]
  have IX20 := Lib.hid (IX19.out.below hb)
  have BB20 := Lib.hid (stepR BB19.out hb)
  clear hb hks AA
  have AA := Lib.hid (IIDs_val w20 X bn bp 8 6 gN9 gQ9 IX20.out (by decide) (fun i s h => g_ns h))
  simp only [List.length_cons, List.length_nil, Nat.zero_add]
  go_wp2_with fail
  refine AA.out.mono ?_; rintro e w21 ⟨⟨u, ks, rfl, hks, _, hu⟩, hb⟩
  rw [gK9 hks] at hu
  obtain ⟨w22, hw⟩ : ∃ W, W = w21.alloc (.cells #[.string ⟨#[98]⟩] (9 : Nat)) := ⟨_, rfl⟩
  have hbb : Below w21.heap.size w21 w22 := by rw [hw]; exact (Below.refl _ _).alloc (Nat.le_refl _) _
  have lk := lit_K w21 ⟨#[98]⟩
  rw [← hw] at lk
  have wv := Words_val w22 u _ _ _ (hu.below hbb (Nat.le_refl _)) lk (by decide) (by decide)
  rw [decide_eq_true rfl] at wv
  have WV := Lib.hid wv
  have IX22 := Lib.hid (IX20.out.below (stepR hb hbb))
  have BB22 := Lib.hid (stepR BB20.out (stepR hb hbb))
  have HW22 := Lib.hid hw
  obtain ⟨ou, cu, hfu⟩ := hu.form
  subst hfu
  clear hks hb hw hbb lk wv AA hu
  go_wp2_with fail
  rw [← HW22.out]
  refine WV.out.mono ?_; rintro e w23 ⟨rfl, hb⟩
  have IX23 := Lib.hid (IX22.out.below hb)
  have BB23 := Lib.hid (stepR BB22.out hb)
  clear hb WV
  have AA := Lib.hid (IOthers_val w23 X bn bp 8 6 gN9 gQ9 ⟨#[97]⟩ 0 IX23.out (by decide))
  go_wp2_with fail
  refine AA.out.mono ?_; rintro e w24 ⟨⟨c, rfl, hs⟩, hb⟩
  obtain rfl : c = 1 := (hs _ gQ9_en).trans (by decide)
  have BB24 := Lib.hid (stepR BB23.out hb)
  clear hs hb AA
  go_wp2_with fail
  go_ret
  exact ⟨rfl, BB24.out⟩
end Go.Proofs.Ythpompgcnemanaa.G
