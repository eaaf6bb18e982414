/- The document's reader: one act. -/
import Derived.Test.YtjkiofgllmjkcaaT3
import Derived.Test.YtjkiofgllmjkcaaS6
namespace Go.Proofs.Ytjkiofgllmjkcaa.G
open Go.RowKit Go.Proofs.Ytjkiofgllmjkcaa.WordPlain Go.Proofs.Ytjkiofgllmjkcaa.Loose
set_option linter.unusedVariables false
set_option linter.unusedSimpArgs false

theorem tk_leq {s : ByteArray} {q : Rst} {n : Nat} (h : q.p ≤ s.size) : (tk s q n).p ≤ s.size := tk_le s q n h
theorem mo_leq {s : ByteArray} {q : Rst} {m : Nat} (h : q.p ≤ s.size) : (mo s q m).p ≤ s.size := mo_le s q m h
/-- the act under way stands in A1, the answer in A0, the reader in P -/
structure On (w : World) (P : Nat) (s : ByteArray) (A0 A1 : Nat) (q : Rst) (row : Array Value) (W : World) : Prop where
  rd : RdR W P s q
  row : W.heap[A1]? = some (.cells row 47 (0, 0))
  res : W.heap[A0]? = some (.cells #[.int .i64 0, .int .i64 0, .string ⟨#[]⟩, .string ⟨#[]⟩, .float .f64 0, .int .i64 0, .int .u64 0, .slice none 0 0, .int .i64 0, .int .i64 0] 47 (0, 0))
  mq : Mq P w W
  a0 : w.heap.size ≤ A0
  a1 : w.heap.size ≤ A1
  ne : A0 ≠ A1
  hp : P < w.heap.size
  le : q.p ≤ s.size
theorem On.call {w W V : World} {P A0 A1 : Nat} {s : ByteArray} {q q' : Rst} {row : Array Value} (h : On w P s A0 A1 q row W) (hr : RdR V P s q') (hm : Mq P W V) (hl : q'.p ≤ s.size) : On w P s A0 A1 q' row V := by
  have h1 := h.hp
  have h2 := h.a0
  have h3 := h.a1
  exact ⟨hr, (hm.block _ (lt_of_rowQ h.row) (by omega)).trans h.row, (hm.block _ (lt_of_rowQ h.res) (by omega)).trans h.res, h.mq.trans hm, h.a0, h.a1, h.ne, h.hp, hl⟩
theorem On.set {w W : World} {P A0 A1 j : Nat} {s : ByteArray} {q : Rst} {row row' : Array Value} {v : Value} (h : On w P s A0 A1 q row W) (hr : row.setIfInBounds j v = row') : On w P s A0 A1 q row' (W.setCell ⟨A1, j, none⟩ v) := by
  have h1 := h.hp
  have h2 := h.a0
  have h3 := h.a1
  have h4 := h.ne
  refine ⟨(heap_setCell_other _ _ _ _ (by show P ≠ A1; omega)).trans h.rd, ?_, (heap_setCell_other _ _ _ _ (by show A0 ≠ A1; omega)).trans h.res, ⟨h.mq.os, h.mq.tape, h.mq.output, by simpa using h.mq.size, fun i hi hn => (heap_setCell_other _ _ _ _ (by show i ≠ A1; omega)).trans (h.mq.block i hi hn)⟩, h.a0, h.a1, h.ne, h.hp, h.le⟩
  rw [heap_setCell_same _ _ _ _ _ _ h.row, hr]
theorem setRow_otherQ (w : World) (g i : Nat) (cs : Array Value) (h : i ≠ g) : (w.setRow g cs).heap[i]? = w.heap[i]? := by
  show (w.heap.modify g _)[i]? = _
  rw [Array.getElem?_modify, if_neg (fun e => h e.symm)]
theorem setRow_sizeQ (w : World) (g : Nat) (cs : Array Value) : (w.setRow g cs).heap.size = w.heap.size := by
  show (w.heap.modify g _).size = _
  rw [Array.size_modify]
theorem On.fin {w W : World} {P A0 A1 : Nat} {s : ByteArray} {q : Rst} {row : Array Value} (h : On w P s A0 A1 q row W) (cs : Array Value) : RdR (W.setRow A0 cs) P s q ∧ Mq P w (W.setRow A0 cs) := by
  have h1 := h.hp
  have h2 := h.a0
  exact ⟨(setRow_otherQ _ _ _ _ (by omega)).trans h.rd, h.mq.os, h.mq.tape, h.mq.output, by rw [setRow_sizeQ]; exact h.mq.size, fun i hi hn => (setRow_otherQ _ _ _ _ (by omega)).trans (h.mq.block i hi hn)⟩
/-- the reader has told the kind: the act is laid -/
theorem On.start {w w1 : World} {P : Nat} {s : ByteArray} {q : Rst} (hP : P < w.heap.size) (hr : RdR w1 P s q) (hm : Mq P (w.alloc (.cells #[.int .i64 0, .int .i64 0, .string ⟨#[]⟩, .string ⟨#[]⟩, .float .f64 0, .int .i64 0, .int .u64 0, .slice none 0 0, .int .i64 0, .int .i64 0] 47)) w1) (hl : q.p ≤ s.size) (cs : Array Value) :
    On w P s w.heap.size w1.heap.size q cs ((w1.alloc (.cells #[.int .i64 0, .int .i64 0, .string ⟨#[]⟩, .string ⟨#[]⟩, .float .f64 0, .int .i64 0, .int .u64 0, .slice none 0 0, .int .i64 0, .int .i64 0] 47)).setRow w1.heap.size cs) ∧ (w1.alloc (.cells #[.int .i64 0, .int .i64 0, .string ⟨#[]⟩, .string ⟨#[]⟩, .float .f64 0, .int .i64 0, .int .u64 0, .slice none 0 0, .int .i64 0, .int .i64 0] 47)).heap[w1.heap.size]? = some (.cells #[.int .i64 0, .int .i64 0, .string ⟨#[]⟩, .string ⟨#[]⟩, .float .f64 0, .int .i64 0, .int .u64 0, .slice none 0 0, .int .i64 0, .int .i64 0] 47 (0, 0)) := by
  have n0 := heap_alloc_new w1 (.cells #[.int .i64 0, .int .i64 0, .string ⟨#[]⟩, .string ⟨#[]⟩, .float .f64 0, .int .i64 0, .int .u64 0, .slice none 0 0, .int .i64 0, .int .i64 0] 47)
  have z0 := heap_alloc_new w (.cells #[.int .i64 0, .int .i64 0, .string ⟨#[]⟩, .string ⟨#[]⟩, .float .f64 0, .int .i64 0, .int .u64 0, .slice none 0 0, .int .i64 0, .int .i64 0] 47)
  have hs0 : (w.alloc (.cells #[.int .i64 0, .int .i64 0, .string ⟨#[]⟩, .string ⟨#[]⟩, .float .f64 0, .int .i64 0, .int .u64 0, .slice none 0 0, .int .i64 0, .int .i64 0] 47)).heap.size = w.heap.size + 1 := by show (w.heap.push _).size = _; rw [Array.size_push]
  have hs := hm.size
  have b1 := alloc_below w1 (.cells #[.int .i64 0, .int .i64 0, .string ⟨#[]⟩, .string ⟨#[]⟩, .float .f64 0, .int .i64 0, .int .u64 0, .slice none 0 0, .int .i64 0, .int .i64 0] 47)
  have hp1 : P < w1.heap.size := lt_of_rowQ hr
  refine ⟨⟨?_, setRow_heap _ _ _ _ _ _ n0, ?_, ⟨?_, ?_, ?_, ?_, fun i hi hn => ?_⟩, Nat.le_refl _, by omega, by omega, hP, hl⟩, n0⟩
  · exact (setRow_otherQ _ _ _ _ (by omega)).trans ((b1.block _ hp1).trans hr)
  · exact (setRow_otherQ _ _ _ _ (by omega)).trans ((b1.block _ (by omega)).trans ((hm.block _ (by omega) (by omega)).trans z0))
  · exact b1.os.trans hm.os
  · exact b1.tape.trans hm.tape
  · exact b1.output.trans hm.output
  · rw [setRow_sizeQ]; have := b1.size; omega
  · exact (setRow_otherQ _ _ _ _ (by omega)).trans ((b1.block _ (by omega)).trans ((hm.block _ (by omega) hn).trans ((alloc_below w (.cells #[.int .i64 0, .int .i64 0, .string ⟨#[]⟩, .string ⟨#[]⟩, .float .f64 0, .int .i64 0, .int .u64 0, .slice none 0 0, .int .i64 0, .int .i64 0] 47)).block _ hi)))
theorem frombT (x : Nat) (W : World) : (callFunc 22 #[.int .u64 (x : Int)]).run Try.prog W = .ok (.value (.float .f64 x)) W := by kernel_rfl

set_option maxRecDepth 100000 in
set_option maxHeartbeats 8000000 in
theorem one_bad (w : World) (P k : Nat) (s : ByteArray) (q : Rst) (h : RdR w P s q) (hq : q.p ≤ s.size) (hs : s.size ≤ 1000000) (hk : nm s q 1 = k) (he : (mo s q 5).e ≠ 0) :
    Calls Try.prog 32 #[.pointer (some ⟨P, 0, none⟩)] w fun e w' => ∃ vk, e = .returned (.agg (Ac.row { Ac.zero with kind := (k : Int) } vk)) ∧ w'.ownsRow w.heap.size 4 1 vk 0 [] ∧ RdR w' P s (mo s q 5) ∧ Mq P w w' := by
  simp only [Ac.row, Ac.zero, show ByteArray.empty = ⟨#[]⟩ from rfl]
  have hP : P < w.heap.size := lt_of_rowQ h
  have mv := most_val (w.alloc (.cells #[.int .i64 0, .int .i64 0, .string ⟨#[]⟩, .string ⟨#[]⟩, .float .f64 0, .int .i64 0, .int .u64 0, .slice none 0 0, .int .i64 0, .int .i64 0] 47)) P 5 s q (h.below (alloc_below w _)) hq hs
  rw [hk] at mv
  have mv' : Calls Try.prog 43 #[.pointer (some ⟨P, 0, none⟩), .int .i64 5] (w.alloc (.cells #[.int .i64 0, .int .i64 0, .string ⟨#[]⟩, .string ⟨#[]⟩, .float .f64 0, .int .i64 0, .int .u64 0, .slice none 0 0, .int .i64 0, .int .i64 0] 47)) fun e w' => e = .returned (.int .i64 (k : Int)) ∧ RdR w' P s (mo s q 5) ∧ Mq P (w.alloc (.cells #[.int .i64 0, .int .i64 0, .string ⟨#[]⟩, .string ⟨#[]⟩, .float .f64 0, .int .i64 0, .int .u64 0, .slice none 0 0, .int .i64 0, .int .i64 0] 47)) w' := mv
  have MV := Lib.hid mv'
  have HS := Lib.hid hs
  have hql : (mo s q 5).p ≤ s.size := mo_leq hq
  obtain ⟨q1, hq1⟩ : ∃ x, x = mo s q 5 := ⟨_, rfl⟩
  rw [← hq1] at MV hql he ⊢
  obtain ⟨p1, e1⟩ := q1
  simp only at he ⊢
  have HQ1 := Lib.hid hq1
  have HQL := Lib.hid hql
  have HPP := Lib.hid hP
  clear mv mv' hq1 hql h hq hs hP hk
  obtain ⟨A0, hA0⟩ : ∃ A, A = w.heap.size := ⟨_, rfl⟩
  have g1 : (e1 == 0) = false := beq_eq_false_iff_ne.2 he
  have g2 : (e1 != 0) = true := bne_iff_ne.2 he
  have g3 : (e1 = 0) = False := eq_false he
  clear he
  go_enter Try.func32, Try.ntmps32
  go_wp2_with fail
  refine MV.out.mono ?_; rintro e w1 ⟨rfl, r1, m1⟩
  have on := On.start HPP.out r1 m1 HQL.out #[.int .i64 (k : Int), .int .i64 0, .string ⟨#[]⟩, .string ⟨#[]⟩, .float .f64 0, .int .i64 0, .int .u64 0, .slice none 0 0, .int .i64 0, .int .i64 0]
  have hn0 := on.2
  have on1 := on.1
  obtain ⟨c0, c1, c2, c3, c4, c5, c6, c7, c8, c9⟩ := ract_cells on1.row
  obtain ⟨d0, d1, d2⟩ := rd_cells on1.rd
  have ONE0 : Hid ((#[.int .i64 (k : Int), .int .i64 0, .string ⟨#[]⟩, .string ⟨#[]⟩, .float .f64 0, .int .i64 0, .int .u64 0, .slice none 0 0, .int .i64 0, .int .i64 0] : Array Value).all (·.oneCell') = true) := Lib.hid (by simp [Value.oneCell'])
  have N0 := Lib.hid hn0
  have ON1 := Lib.hid on1
  have hrow := setRow_heap ((w1.alloc (.cells #[.int .i64 0, .int .i64 0, .string ⟨#[]⟩, .string ⟨#[]⟩, .float .f64 0, .int .i64 0, .int .u64 0, .slice none 0 0, .int .i64 0, .int .i64 0] 47)).setRow w1.heap.size #[.int .i64 (k : Int), .int .i64 0, .string ⟨#[]⟩, .string ⟨#[]⟩, .float .f64 0, .int .i64 0, .int .u64 0, .slice none 0 0, .int .i64 0, .int .i64 0]) w.heap.size _ #[.int .i64 (k : Int), .int .i64 0, .string ⟨#[]⟩, .string ⟨#[]⟩, .float .f64 0, .int .i64 0, .int .u64 0, .slice none 0 0, .int .i64 0, .int .i64 0] _ _ ON1.out.res
  have HROW := Lib.hid hrow
  clear r1 m1 on on1 hn0 hrow hA0 A0
  go_wp2_with (first | refine wpList_store_row rfl 47 _ _ rfl w1.heap.size #[.int .i64 (k : Int), .int .i64 0, .string ⟨#[]⟩, .string ⟨#[]⟩, .float .f64 0, .int .i64 0, .int .u64 0, .slice none 0 0, .int .i64 0, .int .i64 0] rfl rfl _ _ N0.out (by kernel_rfl) rfl ONE0.out ?_ | refine wpList_store_row rfl 47 _ _ rfl w.heap.size #[.int .i64 (k : Int), .int .i64 0, .string ⟨#[]⟩, .string ⟨#[]⟩, .float .f64 0, .int .i64 0, .int .u64 0, .slice none 0 0, .int .i64 0, .int .i64 0] rfl rfl _ _ ON1.out.res (by kernel_rfl) rfl ONE0.out ?_)
  refine bodyPost_ret (v := .agg #[.int .i64 (k : Int), .int .i64 0, .string ⟨#[]⟩, .string ⟨#[]⟩, .float .f64 0, .int .i64 0, .int .u64 0, .slice none 0 0, .int .i64 0, .int .i64 0]) ?_ rfl ⟨_, rfl, World.ownsRow_nil _ _ _ _, (ON1.out.fin _).1, (ON1.out.fin _).2⟩
  exact results_cell_row (p := 2) (ty := 47) rfl _ _ w.heap.size 47 _ (0, 0) _ rfl HROW.out Try.underlying47 rfl (by kernel_rfl)
set_option maxRecDepth 100000 in
set_option maxHeartbeats 8000000 in
theorem one_1 (w : World) (P k : Nat) (s : ByteArray) (q : Rst) (h : RdR w P s q) (hq : q.p ≤ s.size) (hs : s.size ≤ 1000000) (hk : nm s q 1 = 1) (he : (mo s q 5).e = 0) :
    Calls Try.prog 32 #[.pointer (some ⟨P, 0, none⟩)] w fun e w' => ∃ vk, e = .returned (.agg (Ac.row { Ac.zero with kind := 1, n := nm s (mo s q 5) 8 } vk)) ∧ w'.ownsRow w.heap.size 4 1 vk 0 [] ∧ RdR w' P s (tk s (mo s q 5) 8) ∧ Mq P w w' := by
  simp only [Ac.row, Ac.zero, show ByteArray.empty = ⟨#[]⟩ from rfl]
  have hP : P < w.heap.size := lt_of_rowQ h
  have mv := most_val (w.alloc (.cells #[.int .i64 0, .int .i64 0, .string ⟨#[]⟩, .string ⟨#[]⟩, .float .f64 0, .int .i64 0, .int .u64 0, .slice none 0 0, .int .i64 0, .int .i64 0] 47)) P 5 s q (h.below (alloc_below w _)) hq hs
  rw [hk] at mv
  have mv' : Calls Try.prog 43 #[.pointer (some ⟨P, 0, none⟩), .int .i64 5] (w.alloc (.cells #[.int .i64 0, .int .i64 0, .string ⟨#[]⟩, .string ⟨#[]⟩, .float .f64 0, .int .i64 0, .int .u64 0, .slice none 0 0, .int .i64 0, .int .i64 0] 47)) fun e w' => e = .returned (.int .i64 1) ∧ RdR w' P s (mo s q 5) ∧ Mq P (w.alloc (.cells #[.int .i64 0, .int .i64 0, .string ⟨#[]⟩, .string ⟨#[]⟩, .float .f64 0, .int .i64 0, .int .u64 0, .slice none 0 0, .int .i64 0, .int .i64 0] 47)) w' := mv
  have MV := Lib.hid mv'
  have HS := Lib.hid hs
  have hql : (mo s q 5).p ≤ s.size := mo_leq hq
  obtain ⟨q1, hq1⟩ : ∃ x, x = mo s q 5 := ⟨_, rfl⟩
  rw [← hq1] at MV hql he ⊢
  obtain ⟨p1, e1⟩ := q1
  simp only at he ⊢
  have HQ1 := Lib.hid hq1
  have HQL := Lib.hid hql
  have HPP := Lib.hid hP
  clear mv mv' hq1 hql h hq hs hP hk
  obtain ⟨A0, hA0⟩ : ∃ A, A = w.heap.size := ⟨_, rfl⟩
  subst he
  obtain ⟨x1, hx1⟩ : ∃ x, x = nm s ⟨p1, 0⟩ 8 := ⟨_, rfl⟩
  try rw [← hx1]
  obtain ⟨q2, hq2⟩ : ∃ x, x = tk s ⟨p1, 0⟩ 8 := ⟨_, rfl⟩
  try rw [← hq2]
  have HRx1 := Lib.hid hx1
  have HQq2 := Lib.hid hq2
  clear hx1 hq2
  go_enter Try.func32, Try.ntmps32
  go_wp2_with fail
  refine MV.out.mono ?_; rintro e w1 ⟨rfl, r1, m1⟩
  have on := On.start HPP.out r1 m1 HQL.out #[.int .i64 1, .int .i64 0, .string ⟨#[]⟩, .string ⟨#[]⟩, .float .f64 0, .int .i64 0, .int .u64 0, .slice none 0 0, .int .i64 0, .int .i64 0]
  have hn0 := on.2
  have on1 := on.1
  obtain ⟨c0, c1, c2, c3, c4, c5, c6, c7, c8, c9⟩ := ract_cells on1.row
  obtain ⟨d0, d1, d2⟩ := rd_cells on1.rd
  have ONE0 : Hid ((#[.int .i64 1, .int .i64 0, .string ⟨#[]⟩, .string ⟨#[]⟩, .float .f64 0, .int .i64 0, .int .u64 0, .slice none 0 0, .int .i64 0, .int .i64 0] : Array Value).all (·.oneCell') = true) := Lib.hid (by simp [Value.oneCell'])
  have N0 := Lib.hid hn0
  obtain ⟨A1, hA1⟩ : ∃ A, A = w1.heap.size := ⟨_, rfl⟩
  rw [← hA0, ← hA1] at on1
  obtain ⟨V1, hV1⟩ : ∃ V, V = (w1.alloc (.cells #[.int .i64 0, .int .i64 0, .string ⟨#[]⟩, .string ⟨#[]⟩, .float .f64 0, .int .i64 0, .int .u64 0, .slice none 0 0, .int .i64 0, .int .i64 0] 47)).setRow A1 #[.int .i64 1, .int .i64 0, .string ⟨#[]⟩, .string ⟨#[]⟩, .float .f64 0, .int .i64 0, .int .u64 0, .slice none 0 0, .int .i64 0, .int .i64 0] := ⟨_, rfl⟩
  rw [← hV1] at on1
  have ON1 := Lib.hid on1
  have HV1 := Lib.hid hV1
  have HA1 := Lib.hid hA1
  have HA0 := Lib.hid hA0
  clear r1 m1 on on1 hn0 hV1 hA1 hA0
  go_wp2_with (refine wpList_store_row rfl 47 _ _ rfl w1.heap.size #[.int .i64 1, .int .i64 0, .string ⟨#[]⟩, .string ⟨#[]⟩, .float .f64 0, .int .i64 0, .int .u64 0, .slice none 0 0, .int .i64 0, .int .i64 0] rfl rfl _ _ N0.out (by kernel_rfl) rfl ONE0.out ?_)
  rw [← HA1.out, ← HV1.out]
  simp only [← HA0.out]
  clear c0 c1 c2 c3 c4 c5 c6 c7 c8 c9 d0 d1 d2
  obtain ⟨c0, c1, c2, c3, c4, c5, c6, c7, c8, c9⟩ := ract_cells ON1.out.row
  obtain ⟨d0, d1, d2⟩ := rd_cells ON1.out.rd
  have cv := number_val V1 P 8 s ⟨p1, 0⟩ ON1.out.rd ON1.out.le HS.out
  rw [← HRx1.out, ← HQq2.out] at cv
  have hl : (tk s ⟨p1, 0⟩ 8).p ≤ s.size := tk_leq ON1.out.le
  rw [← HQq2.out] at hl
  have CV := Lib.hid cv
  have HL := Lib.hid hl
  clear cv hl
  refine CV.out.mono ?_; rintro e w2 ⟨rfl, r1, m1⟩
  have ON2 := Lib.hid (ON1.out.call r1 m1 HL.out)
  clear r1 m1 c0 c1 c2 c3 c4 c5 c6 c7 c8 c9 d0 d1 d2 CV HL
  obtain ⟨c0, c1, c2, c3, c4, c5, c6, c7, c8, c9⟩ := ract_cells ON2.out.row
  obtain ⟨d0, d1, d2⟩ := rd_cells ON2.out.rd
  have fz := frozen_of_row w2 A1 6 _ _ ON2.out.row
  have ON3 := Lib.hid (ON2.out.set (j := 6) (v := .int .u64 (x1 : Int)) (show _ = #[.int .i64 1, .int .i64 0, .string ⟨#[]⟩, .string ⟨#[]⟩, .float .f64 0, .int .i64 0, .int .u64 (x1 : Int), .slice none 0 0, .int .i64 0, .int .i64 0] from rfl))
  obtain ⟨V3, hV⟩ : ∃ V, V = w2.setCell ⟨A1, 6, none⟩ (.int .u64 (x1 : Int)) := ⟨_, rfl⟩
  rw [← hV] at ON3
  have HV := Lib.hid hV
  clear hV
  clear c0 c1 c2 c3 c4 c5 c6 c7 c8 c9 d0 d1 d2
  obtain ⟨c0, c1, c2, c3, c4, c5, c6, c7, c8, c9⟩ := ract_cells ON2.out.row
  obtain ⟨f0, f1, f2, f3, f4, f5, f6, f7, f8, f9⟩ := ract_cells ON3.out.row
  rw [HV.out] at f0 f1 f2 f3 f4 f5 f6 f7 f8 f9
  have ONEz : Hid ((#[.int .i64 1, .int .i64 0, .string ⟨#[]⟩, .string ⟨#[]⟩, .float .f64 0, .int .i64 0, .int .u64 (x1 : Int), .slice none 0 0, .int .i64 0, .int .i64 0] : Array Value).all (·.oneCell') = true) := Lib.hid (by simp [Value.oneCell'])
  have hrow := setRow_heap V3 A0 _ #[.int .i64 1, .int .i64 0, .string ⟨#[]⟩, .string ⟨#[]⟩, .float .f64 0, .int .i64 0, .int .u64 (x1 : Int), .slice none 0 0, .int .i64 0, .int .i64 0] _ _ ON3.out.res
  have HROW := Lib.hid hrow
  clear hrow
  rw [HV.out] at HROW ON3
  go_wp2_with (refine wpList_store_row rfl 47 _ _ rfl A0 #[.int .i64 1, .int .i64 0, .string ⟨#[]⟩, .string ⟨#[]⟩, .float .f64 0, .int .i64 0, .int .u64 (x1 : Int), .slice none 0 0, .int .i64 0, .int .i64 0] rfl rfl _ _ ON3.out.res (by kernel_rfl) rfl ONEz.out ?_)
  refine bodyPost_ret (v := .agg #[.int .i64 1, .int .i64 0, .string ⟨#[]⟩, .string ⟨#[]⟩, .float .f64 0, .int .i64 0, .int .u64 (x1 : Int), .slice none 0 0, .int .i64 0, .int .i64 0]) ?_ rfl ⟨_, rfl, World.ownsRow_nil _ _ _ _, (ON3.out.fin _).1, (ON3.out.fin _).2⟩
  exact results_cell_row (p := 2) (ty := 47) rfl _ _ A0 47 _ (0, 0) _ rfl HROW.out Try.underlying47 rfl (by kernel_rfl)
set_option maxRecDepth 100000 in
set_option maxHeartbeats 8000000 in
theorem one_2 (w : World) (P k : Nat) (s : ByteArray) (q : Rst) (h : RdR w P s q) (hq : q.p ≤ s.size) (hs : s.size ≤ 1000000) (hk : nm s q 1 = 2) (he : (mo s q 5).e = 0) :
    Calls Try.prog 32 #[.pointer (some ⟨P, 0, none⟩)] w fun e w' => ∃ vk, e = .returned (.agg (Ac.row { Ac.zero with kind := 2, n := nm s (mo s q 5) 1 } vk)) ∧ w'.ownsRow w.heap.size 4 1 vk 0 [] ∧ RdR w' P s (tk s (mo s q 5) 1) ∧ Mq P w w' := by
  simp only [Ac.row, Ac.zero, show ByteArray.empty = ⟨#[]⟩ from rfl]
  have hP : P < w.heap.size := lt_of_rowQ h
  have mv := most_val (w.alloc (.cells #[.int .i64 0, .int .i64 0, .string ⟨#[]⟩, .string ⟨#[]⟩, .float .f64 0, .int .i64 0, .int .u64 0, .slice none 0 0, .int .i64 0, .int .i64 0] 47)) P 5 s q (h.below (alloc_below w _)) hq hs
  rw [hk] at mv
  have mv' : Calls Try.prog 43 #[.pointer (some ⟨P, 0, none⟩), .int .i64 5] (w.alloc (.cells #[.int .i64 0, .int .i64 0, .string ⟨#[]⟩, .string ⟨#[]⟩, .float .f64 0, .int .i64 0, .int .u64 0, .slice none 0 0, .int .i64 0, .int .i64 0] 47)) fun e w' => e = .returned (.int .i64 2) ∧ RdR w' P s (mo s q 5) ∧ Mq P (w.alloc (.cells #[.int .i64 0, .int .i64 0, .string ⟨#[]⟩, .string ⟨#[]⟩, .float .f64 0, .int .i64 0, .int .u64 0, .slice none 0 0, .int .i64 0, .int .i64 0] 47)) w' := mv
  have MV := Lib.hid mv'
  have HS := Lib.hid hs
  have hql : (mo s q 5).p ≤ s.size := mo_leq hq
  obtain ⟨q1, hq1⟩ : ∃ x, x = mo s q 5 := ⟨_, rfl⟩
  rw [← hq1] at MV hql he ⊢
  obtain ⟨p1, e1⟩ := q1
  simp only at he ⊢
  have HQ1 := Lib.hid hq1
  have HQL := Lib.hid hql
  have HPP := Lib.hid hP
  clear mv mv' hq1 hql h hq hs hP hk
  obtain ⟨A0, hA0⟩ : ∃ A, A = w.heap.size := ⟨_, rfl⟩
  subst he
  obtain ⟨x1, hx1⟩ : ∃ x, x = nm s ⟨p1, 0⟩ 1 := ⟨_, rfl⟩
  try rw [← hx1]
  obtain ⟨q2, hq2⟩ : ∃ x, x = tk s ⟨p1, 0⟩ 1 := ⟨_, rfl⟩
  try rw [← hq2]
  have HRx1 := Lib.hid hx1
  have HQq2 := Lib.hid hq2
  clear hx1 hq2
  go_enter Try.func32, Try.ntmps32
  go_wp2_with fail
  refine MV.out.mono ?_; rintro e w1 ⟨rfl, r1, m1⟩
  have on := On.start HPP.out r1 m1 HQL.out #[.int .i64 2, .int .i64 0, .string ⟨#[]⟩, .string ⟨#[]⟩, .float .f64 0, .int .i64 0, .int .u64 0, .slice none 0 0, .int .i64 0, .int .i64 0]
  have hn0 := on.2
  have on1 := on.1
  obtain ⟨c0, c1, c2, c3, c4, c5, c6, c7, c8, c9⟩ := ract_cells on1.row
  obtain ⟨d0, d1, d2⟩ := rd_cells on1.rd
  have ONE0 : Hid ((#[.int .i64 2, .int .i64 0, .string ⟨#[]⟩, .string ⟨#[]⟩, .float .f64 0, .int .i64 0, .int .u64 0, .slice none 0 0, .int .i64 0, .int .i64 0] : Array Value).all (·.oneCell') = true) := Lib.hid (by simp [Value.oneCell'])
  have N0 := Lib.hid hn0
  obtain ⟨A1, hA1⟩ : ∃ A, A = w1.heap.size := ⟨_, rfl⟩
  rw [← hA0, ← hA1] at on1
  obtain ⟨V1, hV1⟩ : ∃ V, V = (w1.alloc (.cells #[.int .i64 0, .int .i64 0, .string ⟨#[]⟩, .string ⟨#[]⟩, .float .f64 0, .int .i64 0, .int .u64 0, .slice none 0 0, .int .i64 0, .int .i64 0] 47)).setRow A1 #[.int .i64 2, .int .i64 0, .string ⟨#[]⟩, .string ⟨#[]⟩, .float .f64 0, .int .i64 0, .int .u64 0, .slice none 0 0, .int .i64 0, .int .i64 0] := ⟨_, rfl⟩
  rw [← hV1] at on1
  have ON1 := Lib.hid on1
  have HV1 := Lib.hid hV1
  have HA1 := Lib.hid hA1
  have HA0 := Lib.hid hA0
  clear r1 m1 on on1 hn0 hV1 hA1 hA0
  go_wp2_with (refine wpList_store_row rfl 47 _ _ rfl w1.heap.size #[.int .i64 2, .int .i64 0, .string ⟨#[]⟩, .string ⟨#[]⟩, .float .f64 0, .int .i64 0, .int .u64 0, .slice none 0 0, .int .i64 0, .int .i64 0] rfl rfl _ _ N0.out (by kernel_rfl) rfl ONE0.out ?_)
  rw [← HA1.out, ← HV1.out]
  simp only [← HA0.out]
  clear c0 c1 c2 c3 c4 c5 c6 c7 c8 c9 d0 d1 d2
  obtain ⟨c0, c1, c2, c3, c4, c5, c6, c7, c8, c9⟩ := ract_cells ON1.out.row
  obtain ⟨d0, d1, d2⟩ := rd_cells ON1.out.rd
  have cv := number_val V1 P 1 s ⟨p1, 0⟩ ON1.out.rd ON1.out.le HS.out
  rw [← HRx1.out, ← HQq2.out] at cv
  have hl : (tk s ⟨p1, 0⟩ 1).p ≤ s.size := tk_leq ON1.out.le
  rw [← HQq2.out] at hl
  have CV := Lib.hid cv
  have HL := Lib.hid hl
  clear cv hl
  refine CV.out.mono ?_; rintro e w2 ⟨rfl, r1, m1⟩
  have ON2 := Lib.hid (ON1.out.call r1 m1 HL.out)
  clear r1 m1 c0 c1 c2 c3 c4 c5 c6 c7 c8 c9 d0 d1 d2 CV HL
  obtain ⟨c0, c1, c2, c3, c4, c5, c6, c7, c8, c9⟩ := ract_cells ON2.out.row
  obtain ⟨d0, d1, d2⟩ := rd_cells ON2.out.rd
  have fz := frozen_of_row w2 A1 6 _ _ ON2.out.row
  have ON3 := Lib.hid (ON2.out.set (j := 6) (v := .int .u64 (x1 : Int)) (show _ = #[.int .i64 2, .int .i64 0, .string ⟨#[]⟩, .string ⟨#[]⟩, .float .f64 0, .int .i64 0, .int .u64 (x1 : Int), .slice none 0 0, .int .i64 0, .int .i64 0] from rfl))
  obtain ⟨V3, hV⟩ : ∃ V, V = w2.setCell ⟨A1, 6, none⟩ (.int .u64 (x1 : Int)) := ⟨_, rfl⟩
  rw [← hV] at ON3
  have HV := Lib.hid hV
  clear hV
  clear c0 c1 c2 c3 c4 c5 c6 c7 c8 c9 d0 d1 d2
  obtain ⟨c0, c1, c2, c3, c4, c5, c6, c7, c8, c9⟩ := ract_cells ON2.out.row
  obtain ⟨f0, f1, f2, f3, f4, f5, f6, f7, f8, f9⟩ := ract_cells ON3.out.row
  rw [HV.out] at f0 f1 f2 f3 f4 f5 f6 f7 f8 f9
  have ONEz : Hid ((#[.int .i64 2, .int .i64 0, .string ⟨#[]⟩, .string ⟨#[]⟩, .float .f64 0, .int .i64 0, .int .u64 (x1 : Int), .slice none 0 0, .int .i64 0, .int .i64 0] : Array Value).all (·.oneCell') = true) := Lib.hid (by simp [Value.oneCell'])
  have hrow := setRow_heap V3 A0 _ #[.int .i64 2, .int .i64 0, .string ⟨#[]⟩, .string ⟨#[]⟩, .float .f64 0, .int .i64 0, .int .u64 (x1 : Int), .slice none 0 0, .int .i64 0, .int .i64 0] _ _ ON3.out.res
  have HROW := Lib.hid hrow
  clear hrow
  rw [HV.out] at HROW ON3
  go_wp2_with (refine wpList_store_row rfl 47 _ _ rfl A0 #[.int .i64 2, .int .i64 0, .string ⟨#[]⟩, .string ⟨#[]⟩, .float .f64 0, .int .i64 0, .int .u64 (x1 : Int), .slice none 0 0, .int .i64 0, .int .i64 0] rfl rfl _ _ ON3.out.res (by kernel_rfl) rfl ONEz.out ?_)
  refine bodyPost_ret (v := .agg #[.int .i64 2, .int .i64 0, .string ⟨#[]⟩, .string ⟨#[]⟩, .float .f64 0, .int .i64 0, .int .u64 (x1 : Int), .slice none 0 0, .int .i64 0, .int .i64 0]) ?_ rfl ⟨_, rfl, World.ownsRow_nil _ _ _ _, (ON3.out.fin _).1, (ON3.out.fin _).2⟩
  exact results_cell_row (p := 2) (ty := 47) rfl _ _ A0 47 _ (0, 0) _ rfl HROW.out Try.underlying47 rfl (by kernel_rfl)
set_option maxRecDepth 100000 in
set_option maxHeartbeats 8000000 in
theorem one_4 (w : World) (P k : Nat) (s : ByteArray) (q : Rst) (h : RdR w P s q) (hq : q.p ≤ s.size) (hs : s.size ≤ 1000000) (hk : nm s q 1 = 4) (he : (mo s q 5).e = 0) :
    Calls Try.prog 32 #[.pointer (some ⟨P, 0, none⟩)] w fun e w' => ∃ vk, e = .returned (.agg (Ac.row { Ac.zero with kind := 4, n := nm s (mo s q 5) 2 } vk)) ∧ w'.ownsRow w.heap.size 4 1 vk 0 [] ∧ RdR w' P s (tk s (mo s q 5) 2) ∧ Mq P w w' := by
  simp only [Ac.row, Ac.zero, show ByteArray.empty = ⟨#[]⟩ from rfl]
  have hP : P < w.heap.size := lt_of_rowQ h
  have mv := most_val (w.alloc (.cells #[.int .i64 0, .int .i64 0, .string ⟨#[]⟩, .string ⟨#[]⟩, .float .f64 0, .int .i64 0, .int .u64 0, .slice none 0 0, .int .i64 0, .int .i64 0] 47)) P 5 s q (h.below (alloc_below w _)) hq hs
  rw [hk] at mv
  have mv' : Calls Try.prog 43 #[.pointer (some ⟨P, 0, none⟩), .int .i64 5] (w.alloc (.cells #[.int .i64 0, .int .i64 0, .string ⟨#[]⟩, .string ⟨#[]⟩, .float .f64 0, .int .i64 0, .int .u64 0, .slice none 0 0, .int .i64 0, .int .i64 0] 47)) fun e w' => e = .returned (.int .i64 4) ∧ RdR w' P s (mo s q 5) ∧ Mq P (w.alloc (.cells #[.int .i64 0, .int .i64 0, .string ⟨#[]⟩, .string ⟨#[]⟩, .float .f64 0, .int .i64 0, .int .u64 0, .slice none 0 0, .int .i64 0, .int .i64 0] 47)) w' := mv
  have MV := Lib.hid mv'
  have HS := Lib.hid hs
  have hql : (mo s q 5).p ≤ s.size := mo_leq hq
  obtain ⟨q1, hq1⟩ : ∃ x, x = mo s q 5 := ⟨_, rfl⟩
  rw [← hq1] at MV hql he ⊢
  obtain ⟨p1, e1⟩ := q1
  simp only at he ⊢
  have HQ1 := Lib.hid hq1
  have HQL := Lib.hid hql
  have HPP := Lib.hid hP
  clear mv mv' hq1 hql h hq hs hP hk
  obtain ⟨A0, hA0⟩ : ∃ A, A = w.heap.size := ⟨_, rfl⟩
  subst he
  obtain ⟨x1, hx1⟩ : ∃ x, x = nm s ⟨p1, 0⟩ 2 := ⟨_, rfl⟩
  try rw [← hx1]
  obtain ⟨q2, hq2⟩ : ∃ x, x = tk s ⟨p1, 0⟩ 2 := ⟨_, rfl⟩
  try rw [← hq2]
  have HRx1 := Lib.hid hx1
  have HQq2 := Lib.hid hq2
  clear hx1 hq2
  go_enter Try.func32, Try.ntmps32
  go_wp2_with fail
  refine MV.out.mono ?_; rintro e w1 ⟨rfl, r1, m1⟩
  have on := On.start HPP.out r1 m1 HQL.out #[.int .i64 4, .int .i64 0, .string ⟨#[]⟩, .string ⟨#[]⟩, .float .f64 0, .int .i64 0, .int .u64 0, .slice none 0 0, .int .i64 0, .int .i64 0]
  have hn0 := on.2
  have on1 := on.1
  obtain ⟨c0, c1, c2, c3, c4, c5, c6, c7, c8, c9⟩ := ract_cells on1.row
  obtain ⟨d0, d1, d2⟩ := rd_cells on1.rd
  have ONE0 : Hid ((#[.int .i64 4, .int .i64 0, .string ⟨#[]⟩, .string ⟨#[]⟩, .float .f64 0, .int .i64 0, .int .u64 0, .slice none 0 0, .int .i64 0, .int .i64 0] : Array Value).all (·.oneCell') = true) := Lib.hid (by simp [Value.oneCell'])
  have N0 := Lib.hid hn0
  obtain ⟨A1, hA1⟩ : ∃ A, A = w1.heap.size := ⟨_, rfl⟩
  rw [← hA0, ← hA1] at on1
  obtain ⟨V1, hV1⟩ : ∃ V, V = (w1.alloc (.cells #[.int .i64 0, .int .i64 0, .string ⟨#[]⟩, .string ⟨#[]⟩, .float .f64 0, .int .i64 0, .int .u64 0, .slice none 0 0, .int .i64 0, .int .i64 0] 47)).setRow A1 #[.int .i64 4, .int .i64 0, .string ⟨#[]⟩, .string ⟨#[]⟩, .float .f64 0, .int .i64 0, .int .u64 0, .slice none 0 0, .int .i64 0, .int .i64 0] := ⟨_, rfl⟩
  rw [← hV1] at on1
  have ON1 := Lib.hid on1
  have HV1 := Lib.hid hV1
  have HA1 := Lib.hid hA1
  have HA0 := Lib.hid hA0
  clear r1 m1 on on1 hn0 hV1 hA1 hA0
  go_wp2_with (refine wpList_store_row rfl 47 _ _ rfl w1.heap.size #[.int .i64 4, .int .i64 0, .string ⟨#[]⟩, .string ⟨#[]⟩, .float .f64 0, .int .i64 0, .int .u64 0, .slice none 0 0, .int .i64 0, .int .i64 0] rfl rfl _ _ N0.out (by kernel_rfl) rfl ONE0.out ?_)
  rw [← HA1.out, ← HV1.out]
  simp only [← HA0.out]
  clear c0 c1 c2 c3 c4 c5 c6 c7 c8 c9 d0 d1 d2
  obtain ⟨c0, c1, c2, c3, c4, c5, c6, c7, c8, c9⟩ := ract_cells ON1.out.row
  obtain ⟨d0, d1, d2⟩ := rd_cells ON1.out.rd
  have cv := number_val V1 P 2 s ⟨p1, 0⟩ ON1.out.rd ON1.out.le HS.out
  rw [← HRx1.out, ← HQq2.out] at cv
  have hl : (tk s ⟨p1, 0⟩ 2).p ≤ s.size := tk_leq ON1.out.le
  rw [← HQq2.out] at hl
  have CV := Lib.hid cv
  have HL := Lib.hid hl
  clear cv hl
  refine CV.out.mono ?_; rintro e w2 ⟨rfl, r1, m1⟩
  have ON2 := Lib.hid (ON1.out.call r1 m1 HL.out)
  clear r1 m1 c0 c1 c2 c3 c4 c5 c6 c7 c8 c9 d0 d1 d2 CV HL
  obtain ⟨c0, c1, c2, c3, c4, c5, c6, c7, c8, c9⟩ := ract_cells ON2.out.row
  obtain ⟨d0, d1, d2⟩ := rd_cells ON2.out.rd
  have fz := frozen_of_row w2 A1 6 _ _ ON2.out.row
  have ON3 := Lib.hid (ON2.out.set (j := 6) (v := .int .u64 (x1 : Int)) (show _ = #[.int .i64 4, .int .i64 0, .string ⟨#[]⟩, .string ⟨#[]⟩, .float .f64 0, .int .i64 0, .int .u64 (x1 : Int), .slice none 0 0, .int .i64 0, .int .i64 0] from rfl))
  obtain ⟨V3, hV⟩ : ∃ V, V = w2.setCell ⟨A1, 6, none⟩ (.int .u64 (x1 : Int)) := ⟨_, rfl⟩
  rw [← hV] at ON3
  have HV := Lib.hid hV
  clear hV
  clear c0 c1 c2 c3 c4 c5 c6 c7 c8 c9 d0 d1 d2
  obtain ⟨c0, c1, c2, c3, c4, c5, c6, c7, c8, c9⟩ := ract_cells ON2.out.row
  obtain ⟨f0, f1, f2, f3, f4, f5, f6, f7, f8, f9⟩ := ract_cells ON3.out.row
  rw [HV.out] at f0 f1 f2 f3 f4 f5 f6 f7 f8 f9
  have ONEz : Hid ((#[.int .i64 4, .int .i64 0, .string ⟨#[]⟩, .string ⟨#[]⟩, .float .f64 0, .int .i64 0, .int .u64 (x1 : Int), .slice none 0 0, .int .i64 0, .int .i64 0] : Array Value).all (·.oneCell') = true) := Lib.hid (by simp [Value.oneCell'])
  have hrow := setRow_heap V3 A0 _ #[.int .i64 4, .int .i64 0, .string ⟨#[]⟩, .string ⟨#[]⟩, .float .f64 0, .int .i64 0, .int .u64 (x1 : Int), .slice none 0 0, .int .i64 0, .int .i64 0] _ _ ON3.out.res
  have HROW := Lib.hid hrow
  clear hrow
  rw [HV.out] at HROW ON3
  go_wp2_with (refine wpList_store_row rfl 47 _ _ rfl A0 #[.int .i64 4, .int .i64 0, .string ⟨#[]⟩, .string ⟨#[]⟩, .float .f64 0, .int .i64 0, .int .u64 (x1 : Int), .slice none 0 0, .int .i64 0, .int .i64 0] rfl rfl _ _ ON3.out.res (by kernel_rfl) rfl ONEz.out ?_)
  refine bodyPost_ret (v := .agg #[.int .i64 4, .int .i64 0, .string ⟨#[]⟩, .string ⟨#[]⟩, .float .f64 0, .int .i64 0, .int .u64 (x1 : Int), .slice none 0 0, .int .i64 0, .int .i64 0]) ?_ rfl ⟨_, rfl, World.ownsRow_nil _ _ _ _, (ON3.out.fin _).1, (ON3.out.fin _).2⟩
  exact results_cell_row (p := 2) (ty := 47) rfl _ _ A0 47 _ (0, 0) _ rfl HROW.out Try.underlying47 rfl (by kernel_rfl)
set_option maxRecDepth 100000 in
set_option maxHeartbeats 8000000 in
theorem one_3 (w : World) (P k : Nat) (s : ByteArray) (q : Rst) (h : RdR w P s q) (hq : q.p ≤ s.size) (hs : s.size ≤ 1000000) (hk : nm s q 1 = 3) (he : (mo s q 5).e = 0) :
    Calls Try.prog 32 #[.pointer (some ⟨P, 0, none⟩)] w fun e w' => ∃ vk, e = .returned (.agg (Ac.row { Ac.zero with kind := 3 } vk)) ∧ w'.ownsRow w.heap.size 4 1 vk 0 [] ∧ RdR w' P s (mo s q 5) ∧ Mq P w w' := by
  simp only [Ac.row, Ac.zero, show ByteArray.empty = ⟨#[]⟩ from rfl]
  have hP : P < w.heap.size := lt_of_rowQ h
  have mv := most_val (w.alloc (.cells #[.int .i64 0, .int .i64 0, .string ⟨#[]⟩, .string ⟨#[]⟩, .float .f64 0, .int .i64 0, .int .u64 0, .slice none 0 0, .int .i64 0, .int .i64 0] 47)) P 5 s q (h.below (alloc_below w _)) hq hs
  rw [hk] at mv
  have mv' : Calls Try.prog 43 #[.pointer (some ⟨P, 0, none⟩), .int .i64 5] (w.alloc (.cells #[.int .i64 0, .int .i64 0, .string ⟨#[]⟩, .string ⟨#[]⟩, .float .f64 0, .int .i64 0, .int .u64 0, .slice none 0 0, .int .i64 0, .int .i64 0] 47)) fun e w' => e = .returned (.int .i64 3) ∧ RdR w' P s (mo s q 5) ∧ Mq P (w.alloc (.cells #[.int .i64 0, .int .i64 0, .string ⟨#[]⟩, .string ⟨#[]⟩, .float .f64 0, .int .i64 0, .int .u64 0, .slice none 0 0, .int .i64 0, .int .i64 0] 47)) w' := mv
  have MV := Lib.hid mv'
  have HS := Lib.hid hs
  have hql : (mo s q 5).p ≤ s.size := mo_leq hq
  obtain ⟨q1, hq1⟩ : ∃ x, x = mo s q 5 := ⟨_, rfl⟩
  rw [← hq1] at MV hql he ⊢
  obtain ⟨p1, e1⟩ := q1
  simp only at he ⊢
  have HQ1 := Lib.hid hq1
  have HQL := Lib.hid hql
  have HPP := Lib.hid hP
  clear mv mv' hq1 hql h hq hs hP hk
  obtain ⟨A0, hA0⟩ : ∃ A, A = w.heap.size := ⟨_, rfl⟩
  subst he
  go_enter Try.func32, Try.ntmps32
  go_wp2_with fail
  refine MV.out.mono ?_; rintro e w1 ⟨rfl, r1, m1⟩
  have on := On.start HPP.out r1 m1 HQL.out #[.int .i64 3, .int .i64 0, .string ⟨#[]⟩, .string ⟨#[]⟩, .float .f64 0, .int .i64 0, .int .u64 0, .slice none 0 0, .int .i64 0, .int .i64 0]
  have hn0 := on.2
  have on1 := on.1
  obtain ⟨c0, c1, c2, c3, c4, c5, c6, c7, c8, c9⟩ := ract_cells on1.row
  obtain ⟨d0, d1, d2⟩ := rd_cells on1.rd
  have ONE0 : Hid ((#[.int .i64 3, .int .i64 0, .string ⟨#[]⟩, .string ⟨#[]⟩, .float .f64 0, .int .i64 0, .int .u64 0, .slice none 0 0, .int .i64 0, .int .i64 0] : Array Value).all (·.oneCell') = true) := Lib.hid (by simp [Value.oneCell'])
  have N0 := Lib.hid hn0
  have ON1 := Lib.hid on1
  have hrow := setRow_heap ((w1.alloc (.cells #[.int .i64 0, .int .i64 0, .string ⟨#[]⟩, .string ⟨#[]⟩, .float .f64 0, .int .i64 0, .int .u64 0, .slice none 0 0, .int .i64 0, .int .i64 0] 47)).setRow w1.heap.size #[.int .i64 3, .int .i64 0, .string ⟨#[]⟩, .string ⟨#[]⟩, .float .f64 0, .int .i64 0, .int .u64 0, .slice none 0 0, .int .i64 0, .int .i64 0]) w.heap.size _ #[.int .i64 3, .int .i64 0, .string ⟨#[]⟩, .string ⟨#[]⟩, .float .f64 0, .int .i64 0, .int .u64 0, .slice none 0 0, .int .i64 0, .int .i64 0] _ _ ON1.out.res
  have HROW := Lib.hid hrow
  clear r1 m1 on on1 hn0 hrow hA0 A0
  go_wp2_with (first | refine wpList_store_row rfl 47 _ _ rfl w1.heap.size #[.int .i64 3, .int .i64 0, .string ⟨#[]⟩, .string ⟨#[]⟩, .float .f64 0, .int .i64 0, .int .u64 0, .slice none 0 0, .int .i64 0, .int .i64 0] rfl rfl _ _ N0.out (by kernel_rfl) rfl ONE0.out ?_ | refine wpList_store_row rfl 47 _ _ rfl w.heap.size #[.int .i64 3, .int .i64 0, .string ⟨#[]⟩, .string ⟨#[]⟩, .float .f64 0, .int .i64 0, .int .u64 0, .slice none 0 0, .int .i64 0, .int .i64 0] rfl rfl _ _ ON1.out.res (by kernel_rfl) rfl ONE0.out ?_)
  refine bodyPost_ret (v := .agg #[.int .i64 3, .int .i64 0, .string ⟨#[]⟩, .string ⟨#[]⟩, .float .f64 0, .int .i64 0, .int .u64 0, .slice none 0 0, .int .i64 0, .int .i64 0]) ?_ rfl ⟨_, rfl, World.ownsRow_nil _ _ _ _, (ON1.out.fin _).1, (ON1.out.fin _).2⟩
  exact results_cell_row (p := 2) (ty := 47) rfl _ _ w.heap.size 47 _ (0, 0) _ rfl HROW.out Try.underlying47 rfl (by kernel_rfl)
end Go.Proofs.Ytjkiofgllmjkcaa.G
