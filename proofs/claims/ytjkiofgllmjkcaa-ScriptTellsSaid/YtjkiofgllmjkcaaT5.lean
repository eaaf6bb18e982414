/- The document's reader: one act: kind 0. -/
import Derived.Test.YtjkiofgllmjkcaaT4
import Derived.Test.YtjkiofgllmjkcaaS6
namespace Go.Proofs.Ytjkiofgllmjkcaa.G
open Go.RowKit Go.Proofs.Ytjkiofgllmjkcaa.WordPlain Go.Proofs.Ytjkiofgllmjkcaa.Loose
set_option linter.unusedVariables false
set_option linter.unusedSimpArgs false

set_option maxRecDepth 100000 in
set_option maxHeartbeats 8000000 in
theorem one_0 (w : World) (P k : Nat) (s : ByteArray) (q : Rst) (h : RdR w P s q) (hq : q.p ≤ s.size) (hs : s.size ≤ 1000000) (hk : nm s q 1 = 0) (he : (mo s q 5).e = 0) :
    Calls Try.prog 32 #[.pointer (some ⟨P, 0, none⟩)] w fun e w' => ∃ vk, e = .returned (.agg (Ac.row { Ac.zero with rk := nm s (mo s q 5) 1, id := tb s (mo s (mo s (mo s q 5) 255) 255) (nm s (mo s (mo s q 5) 255) 1), va := tb s (mo s (tk s (mo s (mo s (mo s q 5) 255) 255) (nm s (mo s (mo s q 5) 255) 1)) 255) (nm s (tk s (mo s (mo s (mo s q 5) 255) 255) (nm s (mo s (mo s q 5) 255) 1)) 1), ttl := nm s (tk s (mo s (tk s (mo s (mo s (mo s q 5) 255) 255) (nm s (mo s (mo s q 5) 255) 1)) 255) (nm s (tk s (mo s (mo s (mo s q 5) 255) 255) (nm s (mo s (mo s q 5) 255) 1)) 1)) 8, pick := nm s (tk s (tk s (mo s (tk s (mo s (mo s (mo s q 5) 255) 255) (nm s (mo s (mo s q 5) 255) 1)) 255) (nm s (tk s (mo s (mo s (mo s q 5) 255) 255) (nm s (mo s (mo s q 5) 255) 1)) 1)) 8) 1 } vk)) ∧ w'.ownsRow w.heap.size 4 1 vk 0 [] ∧ RdR w' P s (mo s (tk s (tk s (mo s (tk s (mo s (mo s (mo s q 5) 255) 255) (nm s (mo s (mo s q 5) 255) 1)) 255) (nm s (tk s (mo s (mo s (mo s q 5) 255) 255) (nm s (mo s (mo s q 5) 255) 1)) 1)) 8) 255) ∧ Mq P w w' := by
  simp only [Ac.row, Ac.zero, show ByteArray.empty = ⟨#[]⟩ from rfl]
  have hP : P < w.heap.size := lt_of_rowQ h
  have mv := most_val (w.alloc (.cells #[.int .i64 0, .int .i64 0, .string ⟨#[]⟩, .string ⟨#[]⟩, .float .f64 0, .int .i64 0, .int .u64 0, .slice none 0 0, .int .i64 0, .int .i64 0] 47)) P 5 s q (h.below (alloc_below w _)) hq hs
  rw [hk] at mv
  have mv' : Calls Try.prog 43 #[.pointer (some ⟨P, 0, none⟩), .int .i64 5] (w.alloc (.cells #[.int .i64 0, .int .i64 0, .string ⟨#[]⟩, .string ⟨#[]⟩, .float .f64 0, .int .i64 0, .int .u64 0, .slice none 0 0, .int .i64 0, .int .i64 0] 47)) fun e w' => e = .returned (.int .i64 0) ∧ RdR w' P s (mo s q 5) ∧ Mq P (w.alloc (.cells #[.int .i64 0, .int .i64 0, .string ⟨#[]⟩, .string ⟨#[]⟩, .float .f64 0, .int .i64 0, .int .u64 0, .slice none 0 0, .int .i64 0, .int .i64 0] 47)) w' := mv
  have MV := Lib.hid mv'
  have HS := Lib.hid hs
  have hql : (mo s q 5).p ≤ s.size := mo_leq hq
  obtain ⟨q1, hq1⟩ : ∃ x, x = mo s q 5 := ⟨_, rfl⟩
  rw [← hq1] at MV hql he ⊢
  obtain ⟨p1, e1⟩ := q1
  simp only at he ⊢
  have HQ1 := Lib.hid hq1
  have HQL := Lib.hid hql
  have HPP := Lib.hid hP
  clear mv mv' hq1 hql h hq hs hP hk
  obtain ⟨A0, hA0⟩ : ∃ A, A = w.heap.size := ⟨_, rfl⟩
  subst he
  obtain ⟨x1, hx1⟩ : ∃ x, x = nm s ⟨p1, 0⟩ 1 := ⟨_, rfl⟩
  try rw [← hx1]
  obtain ⟨q2, hq2⟩ : ∃ x, x = mo s ⟨p1, 0⟩ 255 := ⟨_, rfl⟩
  try rw [← hq2]
  have HRx1 := Lib.hid hx1
  have HQq2 := Lib.hid hq2
  clear hx1 hq2
  obtain ⟨y2, hy2⟩ : ∃ x, x = nm s q2 1 := ⟨_, rfl⟩
  try rw [← hy2]
  obtain ⟨q3, hq3⟩ : ∃ x, x = mo s q2 255 := ⟨_, rfl⟩
  try rw [← hq3]
  have HRy2 := Lib.hid hy2
  have HQq3 := Lib.hid hq3
  clear hy2 hq3
  obtain ⟨xi, hxi⟩ : ∃ x, x = tb s q3 y2 := ⟨_, rfl⟩
  try rw [← hxi]
  obtain ⟨q4, hq4⟩ : ∃ x, x = tk s q3 y2 := ⟨_, rfl⟩
  try rw [← hq4]
  have HRxi := Lib.hid hxi
  have HQq4 := Lib.hid hq4
  clear hxi hq4
  obtain ⟨y4, hy4⟩ : ∃ x, x = nm s q4 1 := ⟨_, rfl⟩
  try rw [← hy4]
  obtain ⟨q5, hq5⟩ : ∃ x, x = mo s q4 255 := ⟨_, rfl⟩
  try rw [← hq5]
  have HRy4 := Lib.hid hy4
  have HQq5 := Lib.hid hq5
  clear hy4 hq5
  obtain ⟨xv, hxv⟩ : ∃ x, x = tb s q5 y4 := ⟨_, rfl⟩
  try rw [← hxv]
  obtain ⟨q6, hq6⟩ : ∃ x, x = tk s q5 y4 := ⟨_, rfl⟩
  try rw [← hq6]
  have HRxv := Lib.hid hxv
  have HQq6 := Lib.hid hq6
  clear hxv hq6
  obtain ⟨x6, hx6⟩ : ∃ x, x = nm s q6 8 := ⟨_, rfl⟩
  try rw [← hx6]
  obtain ⟨q7, hq7⟩ : ∃ x, x = tk s q6 8 := ⟨_, rfl⟩
  try rw [← hq7]
  have HRx6 := Lib.hid hx6
  have HQq7 := Lib.hid hq7
  clear hx6 hq7
  obtain ⟨x7, hx7⟩ : ∃ x, x = nm s q7 1 := ⟨_, rfl⟩
  try rw [← hx7]
  obtain ⟨q8, hq8⟩ : ∃ x, x = mo s q7 255 := ⟨_, rfl⟩
  try rw [← hq8]
  have HRx7 := Lib.hid hx7
  have HQq8 := Lib.hid hq8
  clear hx7 hq8
  go_enter Try.func32, Try.ntmps32
  go_wp2_with fail
  refine MV.out.mono ?_; rintro e w1 ⟨rfl, r1, m1⟩
  have on := On.start HPP.out r1 m1 HQL.out #[.int .i64 0, .int .i64 0, .string ⟨#[]⟩, .string ⟨#[]⟩, .float .f64 0, .int .i64 0, .int .u64 0, .slice none 0 0, .int .i64 0, .int .i64 0]
  have hn0 := on.2
  have on1 := on.1
  obtain ⟨c0, c1, c2, c3, c4, c5, c6, c7, c8, c9⟩ := ract_cells on1.row
  obtain ⟨d0, d1, d2⟩ := rd_cells on1.rd
  have ONE0 : Hid ((#[.int .i64 0, .int .i64 0, .string ⟨#[]⟩, .string ⟨#[]⟩, .float .f64 0, .int .i64 0, .int .u64 0, .slice none 0 0, .int .i64 0, .int .i64 0] : Array Value).all (·.oneCell') = true) := Lib.hid (by simp [Value.oneCell'])
  have N0 := Lib.hid hn0
  obtain ⟨A1, hA1⟩ : ∃ A, A = w1.heap.size := ⟨_, rfl⟩
  rw [← hA0, ← hA1] at on1
  obtain ⟨V1, hV1⟩ : ∃ V, V = (w1.alloc (.cells #[.int .i64 0, .int .i64 0, .string ⟨#[]⟩, .string ⟨#[]⟩, .float .f64 0, .int .i64 0, .int .u64 0, .slice none 0 0, .int .i64 0, .int .i64 0] 47)).setRow A1 #[.int .i64 0, .int .i64 0, .string ⟨#[]⟩, .string ⟨#[]⟩, .float .f64 0, .int .i64 0, .int .u64 0, .slice none 0 0, .int .i64 0, .int .i64 0] := ⟨_, rfl⟩
  rw [← hV1] at on1
  have ON1 := Lib.hid on1
  have HV1 := Lib.hid hV1
  have HA1 := Lib.hid hA1
  have HA0 := Lib.hid hA0
  clear r1 m1 on on1 hn0 hV1 hA1 hA0
  go_wp2_with (refine wpList_store_row rfl 47 _ _ rfl w1.heap.size #[.int .i64 0, .int .i64 0, .string ⟨#[]⟩, .string ⟨#[]⟩, .float .f64 0, .int .i64 0, .int .u64 0, .slice none 0 0, .int .i64 0, .int .i64 0] rfl rfl _ _ N0.out (by kernel_rfl) rfl ONE0.out ?_)
  rw [← HA1.out, ← HV1.out]
  simp only [← HA0.out]
  clear c0 c1 c2 c3 c4 c5 c6 c7 c8 c9 d0 d1 d2
  obtain ⟨c0, c1, c2, c3, c4, c5, c6, c7, c8, c9⟩ := ract_cells ON1.out.row
  obtain ⟨d0, d1, d2⟩ := rd_cells ON1.out.rd
  have cv := most_val V1 P 255 s ⟨p1, 0⟩ ON1.out.rd ON1.out.le HS.out
  rw [← HRx1.out, ← HQq2.out] at cv
  have hl : (mo s ⟨p1, 0⟩ 255).p ≤ s.size := mo_leq ON1.out.le
  rw [← HQq2.out] at hl
  have CV := Lib.hid cv
  have HL := Lib.hid hl
  clear cv hl
  refine CV.out.mono ?_; rintro e w2 ⟨rfl, r1, m1⟩
  have ON2 := Lib.hid (ON1.out.call r1 m1 HL.out)
  clear r1 m1 c0 c1 c2 c3 c4 c5 c6 c7 c8 c9 d0 d1 d2 CV HL
  obtain ⟨c0, c1, c2, c3, c4, c5, c6, c7, c8, c9⟩ := ract_cells ON2.out.row
  obtain ⟨d0, d1, d2⟩ := rd_cells ON2.out.rd
  have fz := frozen_of_row w2 A1 1 _ _ ON2.out.row
  have ON3 := Lib.hid (ON2.out.set (j := 1) (v := .int .i64 (x1 : Int)) (show _ = #[.int .i64 0, .int .i64 (x1 : Int), .string ⟨#[]⟩, .string ⟨#[]⟩, .float .f64 0, .int .i64 0, .int .u64 0, .slice none 0 0, .int .i64 0, .int .i64 0] from rfl))
  obtain ⟨V3, hV⟩ : ∃ V, V = w2.setCell ⟨A1, 1, none⟩ (.int .i64 (x1 : Int)) := ⟨_, rfl⟩
  rw [← hV] at ON3
  have HV := Lib.hid hV
  clear hV
  go_wp2_with fail
  rw [← HV.out]
  clear c0 c1 c2 c3 c4 c5 c6 c7 c8 c9 d0 d1 d2 fz HV
  obtain ⟨c0, c1, c2, c3, c4, c5, c6, c7, c8, c9⟩ := ract_cells ON3.out.row
  obtain ⟨d0, d1, d2⟩ := rd_cells ON3.out.rd
  have cv := most_val V3 P 255 s q2 ON3.out.rd ON3.out.le HS.out
  rw [← HRy2.out, ← HQq3.out] at cv
  have hl : (mo s q2 255).p ≤ s.size := mo_leq ON3.out.le
  rw [← HQq3.out] at hl
  have CV := Lib.hid cv
  have HL := Lib.hid hl
  clear cv hl
  refine CV.out.mono ?_; rintro e w4 ⟨rfl, r1, m1⟩
  have ON4 := Lib.hid (ON3.out.call r1 m1 HL.out)
  clear r1 m1 c0 c1 c2 c3 c4 c5 c6 c7 c8 c9 d0 d1 d2 CV HL
  obtain ⟨c0, c1, c2, c3, c4, c5, c6, c7, c8, c9⟩ := ract_cells ON4.out.row
  obtain ⟨d0, d1, d2⟩ := rd_cells ON4.out.rd
  have cv := take_val w4 P y2 s q3 ON4.out.rd ON4.out.le HS.out
  rw [← HRxi.out, ← HQq4.out] at cv
  have hl : (tk s q3 y2).p ≤ s.size := tk_leq ON4.out.le
  rw [← HQq4.out] at hl
  have CV := Lib.hid cv
  have HL := Lib.hid hl
  clear cv hl
  go_wp2_with fail
  refine CV.out.mono ?_; rintro e w5 ⟨rfl, r1, m1⟩
  have ON5 := Lib.hid (ON4.out.call r1 m1 HL.out)
  clear r1 m1 c0 c1 c2 c3 c4 c5 c6 c7 c8 c9 d0 d1 d2 CV HL
  obtain ⟨c0, c1, c2, c3, c4, c5, c6, c7, c8, c9⟩ := ract_cells ON5.out.row
  obtain ⟨d0, d1, d2⟩ := rd_cells ON5.out.rd
  have fz := frozen_of_row w5 A1 2 _ _ ON5.out.row
  have ON6 := Lib.hid (ON5.out.set (j := 2) (v := .string xi) (show _ = #[.int .i64 0, .int .i64 (x1 : Int), .string xi, .string ⟨#[]⟩, .float .f64 0, .int .i64 0, .int .u64 0, .slice none 0 0, .int .i64 0, .int .i64 0] from rfl))
  obtain ⟨V6, hV⟩ : ∃ V, V = w5.setCell ⟨A1, 2, none⟩ (.string xi) := ⟨_, rfl⟩
  rw [← hV] at ON6
  have HV := Lib.hid hV
  clear hV
  go_wp2_with fail
  rw [← HV.out]
  clear c0 c1 c2 c3 c4 c5 c6 c7 c8 c9 d0 d1 d2 fz HV
  obtain ⟨c0, c1, c2, c3, c4, c5, c6, c7, c8, c9⟩ := ract_cells ON6.out.row
  obtain ⟨d0, d1, d2⟩ := rd_cells ON6.out.rd
  have cv := most_val V6 P 255 s q4 ON6.out.rd ON6.out.le HS.out
  rw [← HRy4.out, ← HQq5.out] at cv
  have hl : (mo s q4 255).p ≤ s.size := mo_leq ON6.out.le
  rw [← HQq5.out] at hl
  have CV := Lib.hid cv
  have HL := Lib.hid hl
  clear cv hl
  refine CV.out.mono ?_; rintro e w7 ⟨rfl, r1, m1⟩
  have ON7 := Lib.hid (ON6.out.call r1 m1 HL.out)
  clear r1 m1 c0 c1 c2 c3 c4 c5 c6 c7 c8 c9 d0 d1 d2 CV HL
  obtain ⟨c0, c1, c2, c3, c4, c5, c6, c7, c8, c9⟩ := ract_cells ON7.out.row
  obtain ⟨d0, d1, d2⟩ := rd_cells ON7.out.rd
  have cv := take_val w7 P y4 s q5 ON7.out.rd ON7.out.le HS.out
  rw [← HRxv.out, ← HQq6.out] at cv
  have hl : (tk s q5 y4).p ≤ s.size := tk_leq ON7.out.le
  rw [← HQq6.out] at hl
  have CV := Lib.hid cv
  have HL := Lib.hid hl
  clear cv hl
  go_wp2_with fail
  refine CV.out.mono ?_; rintro e w8 ⟨rfl, r1, m1⟩
  have ON8 := Lib.hid (ON7.out.call r1 m1 HL.out)
  clear r1 m1 c0 c1 c2 c3 c4 c5 c6 c7 c8 c9 d0 d1 d2 CV HL
  obtain ⟨c0, c1, c2, c3, c4, c5, c6, c7, c8, c9⟩ := ract_cells ON8.out.row
  obtain ⟨d0, d1, d2⟩ := rd_cells ON8.out.rd
  have fz := frozen_of_row w8 A1 3 _ _ ON8.out.row
  have ON9 := Lib.hid (ON8.out.set (j := 3) (v := .string xv) (show _ = #[.int .i64 0, .int .i64 (x1 : Int), .string xi, .string xv, .float .f64 0, .int .i64 0, .int .u64 0, .slice none 0 0, .int .i64 0, .int .i64 0] from rfl))
  obtain ⟨V9, hV⟩ : ∃ V, V = w8.setCell ⟨A1, 3, none⟩ (.string xv) := ⟨_, rfl⟩
  rw [← hV] at ON9
  have HV := Lib.hid hV
  clear hV
  go_wp2_with fail
  rw [← HV.out]
  clear c0 c1 c2 c3 c4 c5 c6 c7 c8 c9 d0 d1 d2 fz HV
  obtain ⟨c0, c1, c2, c3, c4, c5, c6, c7, c8, c9⟩ := ract_cells ON9.out.row
  obtain ⟨d0, d1, d2⟩ := rd_cells ON9.out.rd
  have cv := number_val V9 P 8 s q6 ON9.out.rd ON9.out.le HS.out
  rw [← HRx6.out, ← HQq7.out] at cv
  have hl : (tk s q6 8).p ≤ s.size := tk_leq ON9.out.le
  rw [← HQq7.out] at hl
  have CV := Lib.hid cv
  have HL := Lib.hid hl
  clear cv hl
  refine CV.out.mono ?_; rintro e w10 ⟨rfl, r1, m1⟩
  have ON10 := Lib.hid (ON9.out.call r1 m1 HL.out)
  clear r1 m1 c0 c1 c2 c3 c4 c5 c6 c7 c8 c9 d0 d1 d2 CV HL
  obtain ⟨c0, c1, c2, c3, c4, c5, c6, c7, c8, c9⟩ := ract_cells ON10.out.row
  obtain ⟨d0, d1, d2⟩ := rd_cells ON10.out.rd
  have fz := frozen_of_row w10 A1 4 _ _ ON10.out.row
  have ON11 := Lib.hid (ON10.out.set (j := 4) (v := .float .f64 x6) (show _ = #[.int .i64 0, .int .i64 (x1 : Int), .string xi, .string xv, .float .f64 x6, .int .i64 0, .int .u64 0, .slice none 0 0, .int .i64 0, .int .i64 0] from rfl))
  obtain ⟨V11, hV⟩ : ∃ V, V = w10.setCell ⟨A1, 4, none⟩ (.float .f64 x6) := ⟨_, rfl⟩
  rw [← hV] at ON11
  have HV := Lib.hid hV
  clear hV
  have sf := store_floatS
  have fb := frombT x6
  go_wp2_with fail
  rw [← HV.out]
  clear c0 c1 c2 c3 c4 c5 c6 c7 c8 c9 d0 d1 d2 fz HV sf fb
  obtain ⟨c0, c1, c2, c3, c4, c5, c6, c7, c8, c9⟩ := ract_cells ON11.out.row
  obtain ⟨d0, d1, d2⟩ := rd_cells ON11.out.rd
  have cv := most_val V11 P 255 s q7 ON11.out.rd ON11.out.le HS.out
  rw [← HRx7.out, ← HQq8.out] at cv
  have hl : (mo s q7 255).p ≤ s.size := mo_leq ON11.out.le
  rw [← HQq8.out] at hl
  have CV := Lib.hid cv
  have HL := Lib.hid hl
  clear cv hl
  refine CV.out.mono ?_; rintro e w12 ⟨rfl, r1, m1⟩
  have ON12 := Lib.hid (ON11.out.call r1 m1 HL.out)
  clear r1 m1 c0 c1 c2 c3 c4 c5 c6 c7 c8 c9 d0 d1 d2 CV HL
  obtain ⟨c0, c1, c2, c3, c4, c5, c6, c7, c8, c9⟩ := ract_cells ON12.out.row
  obtain ⟨d0, d1, d2⟩ := rd_cells ON12.out.rd
  have fz := frozen_of_row w12 A1 5 _ _ ON12.out.row
  have ON13 := Lib.hid (ON12.out.set (j := 5) (v := .int .i64 (x7 : Int)) (show _ = #[.int .i64 0, .int .i64 (x1 : Int), .string xi, .string xv, .float .f64 x6, .int .i64 (x7 : Int), .int .u64 0, .slice none 0 0, .int .i64 0, .int .i64 0] from rfl))
  obtain ⟨V13, hV⟩ : ∃ V, V = w12.setCell ⟨A1, 5, none⟩ (.int .i64 (x7 : Int)) := ⟨_, rfl⟩
  rw [← hV] at ON13
  have HV := Lib.hid hV
  clear hV
  clear c0 c1 c2 c3 c4 c5 c6 c7 c8 c9 d0 d1 d2
  obtain ⟨c0, c1, c2, c3, c4, c5, c6, c7, c8, c9⟩ := ract_cells ON12.out.row
  obtain ⟨f0, f1, f2, f3, f4, f5, f6, f7, f8, f9⟩ := ract_cells ON13.out.row
  rw [HV.out] at f0 f1 f2 f3 f4 f5 f6 f7 f8 f9
  have ONEz : Hid ((#[.int .i64 0, .int .i64 (x1 : Int), .string xi, .string xv, .float .f64 x6, .int .i64 (x7 : Int), .int .u64 0, .slice none 0 0, .int .i64 0, .int .i64 0] : Array Value).all (·.oneCell') = true) := Lib.hid (by simp [Value.oneCell'])
  have hrow := setRow_heap V13 A0 _ #[.int .i64 0, .int .i64 (x1 : Int), .string xi, .string xv, .float .f64 x6, .int .i64 (x7 : Int), .int .u64 0, .slice none 0 0, .int .i64 0, .int .i64 0] _ _ ON13.out.res
  have HROW := Lib.hid hrow
  clear hrow
  rw [HV.out] at HROW ON13
  go_wp2_with (refine wpList_store_row rfl 47 _ _ rfl A0 #[.int .i64 0, .int .i64 (x1 : Int), .string xi, .string xv, .float .f64 x6, .int .i64 (x7 : Int), .int .u64 0, .slice none 0 0, .int .i64 0, .int .i64 0] rfl rfl _ _ ON13.out.res (by kernel_rfl) rfl ONEz.out ?_)
  refine bodyPost_ret (v := .agg #[.int .i64 0, .int .i64 (x1 : Int), .string xi, .string xv, .float .f64 x6, .int .i64 (x7 : Int), .int .u64 0, .slice none 0 0, .int .i64 0, .int .i64 0]) ?_ rfl ⟨_, rfl, World.ownsRow_nil _ _ _ _, (ON13.out.fin _).1, (ON13.out.fin _).2⟩
  exact results_cell_row (p := 2) (ty := 47) rfl _ _ A0 47 _ (0, 0) _ rfl HROW.out Try.underlying47 rfl (by kernel_rfl)
end Go.Proofs.Ytjkiofgllmjkcaa.G
