/- The document's reader: take, number, most. -/
import Derived.Test.YtjkiofgllmjkcaaT7
import Derived.Test.YtjkiofgllmjkcaaT1
import Derived.Test.YtjkiofgllmjkcaaGLoose
import Derived.Test.YtjkiofgllmjkcaaGFast
import Derived.BigQuiet
namespace Go.Proofs.Ytjkiofgllmjkcaa.G
open Go.RowKit Go.Proofs.Ytjkiofgllmjkcaa.WordPlain Go.Proofs.Ytjkiofgllmjkcaa.Loose
set_option linter.unusedVariables false
set_option linter.unusedSimpArgs false

/-- a reader stands in the block P -/
def RdR (w : World) (P : Nat) (s : ByteArray) (q : Rst) : Prop := w.heap[P]? = some (.cells #[.string s, .int .i64 (q.p : Int), .int .i64 q.e] 73 (0, 0))
/-- nothing but this block has turned -/
structure Mq (P : Nat) (w w' : World) : Prop where
  os : w'.os = w.os
  tape : w'.tape = w.tape
  output : w'.output = w.output
  size : w.heap.size ≤ w'.heap.size
  block : ∀ i, i < w.heap.size → i ≠ P → w'.heap[i]? = w.heap[i]?
theorem Mq.of_below {P : Nat} {w w' : World} (h : Below w.heap.size w w') : Mq P w w' := ⟨h.os, h.tape, h.output, h.size, fun i hi _ => h.block i hi⟩
theorem Mq.trans {P : Nat} {w w1 w2 : World} (h : Mq P w w1) (k : Mq P w1 w2) : Mq P w w2 := ⟨k.os.trans h.os, k.tape.trans h.tape, k.output.trans h.output, Nat.le_trans h.size k.size, fun i hi hn => (k.block i (Nat.lt_of_lt_of_le hi h.size) hn).trans (h.block i hi hn)⟩
theorem Mq.set {P j : Nat} {w w1 : World} {v : Value} (h : Mq P w w1) : Mq P w (w1.setCell ⟨P, j, none⟩ v) := ⟨h.os, h.tape, h.output, by simpa using h.size, fun i hi hn => (heap_setCell_other _ _ _ _ hn).trans (h.block i hi hn)⟩
theorem Mq.below {P B : Nat} {w w' : World} (h : Mq P w w') (hP : B ≤ P) (hB : B ≤ w.heap.size) : Below B w w' := ⟨h.os, h.tape, h.output, h.size, fun i hi => h.block i (by omega) (by omega)⟩
theorem RdR.below {w V : World} {P : Nat} {s : ByteArray} {q : Rst} (h : RdR w P s q) (hb : Below w.heap.size w V) : RdR V P s q := (hb.block _ (lt_of_rowQ h)).trans h
theorem rd_cells {W : World} {P : Nat} {s : ByteArray} {p e : Int} (h : W.heap[P]? = some (.cells #[.string s, .int .i64 p, .int .i64 e] 73 (0, 0))) :
    W.cell? ⟨P, 0, none⟩ = some (.string s) ∧ W.cell? ⟨P, 1, none⟩ = some (.int .i64 p) ∧ W.cell? ⟨P, 2, none⟩ = some (.int .i64 e) :=
  ⟨(cell_of_row _ _ 0 _ _ _ h).trans rfl, (cell_of_row _ _ 1 _ _ _ h).trans rfl, (cell_of_row _ _ 2 _ _ _ h).trans rfl⟩
theorem wr64 (x : Nat) (h : x < 4611686018427387904) : wrap64 (x : Int) = (x : Int) ∧ IntKind.i64.wrap (x : Int) = (x : Int) := ⟨IntWalk.wrap64_in _ (by omega), IntWalk.i64_in _ (by omega)⟩
theorem drew_below (w : World) (d : Nat) (os : Array Obj) : Below w.heap.size w (Go.Sort.grow (Go.redrawn w d) os) := below_regrown w d os

set_option maxRecDepth 100000 in
set_option maxHeartbeats 4000000 in
theorem rtake_bad (w : World) (P p n : Nat) (e : Int) (s : ByteArray) (h : w.heap[P]? = some (.cells #[.string s, .int .i64 (p : Int), .int .i64 e] 73 (0, 0))) (g1 : (e == 0) = false) (g2 : (e != 0) = true) (g3 : (e = 0) = False) :
    Calls Try.prog 44 #[.pointer (some ⟨P, 0, none⟩), .int .i64 (n : Int)] w fun e' w' => e' = .returned (.string ⟨#[]⟩) ∧ w'.heap[P]? = some (.cells #[.string s, .int .i64 (p : Int), .int .i64 e] 73 (0, 0)) ∧ Mq P w w' := by
  obtain ⟨c0, c1, c2⟩ := rd_cells h
  have k0 := cell_regrown c0
  have k1 := cell_regrown c1
  have k2 := cell_regrown c2
  have H := Lib.hid h
  clear h c0 c1 c2
  go_enter Try.func44, Try.ntmps44
  go_wp2_with fail
  refine Loose.wp_region_quiet_fast (by kernel_rfl) (by kernel_rfl) ?_
  (try simp only [List.append_eq, List.cons_append, List.nil_append])
  repeat (go_big_quiet_step (fail))
  refine wpQuiet_nil ?_
  intro _ hw'
  obtain ⟨⟨dq, osq⟩, hw''⟩ := hw'
  subst hw''
  clear k0 k1 k2
  have bQ := below_regrown w dq osq
  obtain ⟨V, hV⟩ : ∃ V, V = Go.Sort.grow (Go.redrawn w dq) osq := ⟨_, rfl⟩
  rw [← hV] at bQ
  rw [← hV]
  have r1 := (bQ.block _ (lt_of_rowQ H.out)).trans H.out
  have BQ := Lib.hid bQ
  clear hV bQ
  obtain ⟨c0, c1, c2⟩ := rd_cells r1
  have R := Lib.hid r1
  clear r1
  go_wp2_with fail
  go_ret
  exact ⟨rfl, R.out, Mq.of_below BQ.out⟩
set_option maxRecDepth 100000 in
set_option maxHeartbeats 4000000 in
theorem rtake_short (w : World) (P p n : Nat) (e : Int) (s : ByteArray) (h : w.heap[P]? = some (.cells #[.string s, .int .i64 (p : Int), .int .i64 e] 73 (0, 0))) (he : e = 0) (d : Nat) (hd : (s.size : Int) - (p : Int) = (d : Int)) (hdn : d < n) (hd6 : d ≤ 1000000) :
    Calls Try.prog 44 #[.pointer (some ⟨P, 0, none⟩), .int .i64 (n : Int)] w fun e' w' => e' = .returned (.string ⟨#[]⟩) ∧ w'.heap[P]? = some (.cells #[.string s, .int .i64 (p : Int), .int .i64 6] 73 (0, 0)) ∧ Mq P w w' := by
  subst he
  have hw1 := (wr64 d (by omega)).1
  have hw2 := (wr64 d (by omega)).2
  have q1 : (d < n) = True := eq_true hdn
  have q2 : (n ≤ d) = False := eq_false (by omega)
  have q3 : decide ((d : Int) < (n : Int)) = true := decide_eq_true (by omega)
  have HD := Lib.hid hdn
  clear hdn hd6
  obtain ⟨c0, c1, c2⟩ := rd_cells h
  have k0 := cell_regrown c0
  have k1 := cell_regrown c1
  have k2 := cell_regrown c2
  have H := Lib.hid h
  clear h c0 c1 c2
  go_enter Try.func44, Try.ntmps44
  go_wp2_with fail
  refine Loose.wp_region_quiet_fast (by kernel_rfl) (by kernel_rfl) ?_
  (try simp only [List.append_eq, List.cons_append, List.nil_append])
  repeat (go_big_quiet_step (fail))
  refine wpQuiet_nil ?_
  intro _ hw'
  obtain ⟨⟨dq, osq⟩, hw''⟩ := hw'
  subst hw''
  clear k0 k1 k2 hd hw1 hw2 q1 q2 q3
  have bQ := below_regrown w dq osq
  obtain ⟨V, hV⟩ : ∃ V, V = Go.Sort.grow (Go.redrawn w dq) osq := ⟨_, rfl⟩
  rw [← hV] at bQ
  rw [← hV]
  have r1 := (bQ.block _ (lt_of_rowQ H.out)).trans H.out
  have BQ := Lib.hid bQ
  clear hV bQ
  obtain ⟨c0, c1, c2⟩ := rd_cells r1
  have fz := frozen_of_row _ _ 2 _ _ r1
  have r2 := heap_setCell_same V P 2 _ _ (.int .i64 6) r1
  have m2 := (Mq.of_below (P := P) BQ.out).set (j := 2) (v := .int .i64 6)
  obtain ⟨W2, hW2⟩ : ∃ W, W = V.setCell ⟨P, 2, none⟩ (.int .i64 6) := ⟨_, rfl⟩
  rw [← hW2] at r2 m2
  have r3 : W2.heap[P]? = some (.cells #[.string s, .int .i64 (p : Int), .int .i64 6] 73 (0, 0)) := by rw [r2]; rfl
  obtain ⟨e0, e1, e2⟩ := rd_cells r3
  have R := Lib.hid r3
  have M := Lib.hid m2
  rw [hW2] at e2
  clear r1 r2 m2 r3 c0 c1 e0 e1
  go_wp2_with fail
  go_ret
  rw [← hW2]
  exact ⟨rfl, R.out, M.out⟩
set_option maxRecDepth 100000 in
set_option maxHeartbeats 4000000 in
theorem rtake_ok (w : World) (P p n : Nat) (e : Int) (s : ByteArray) (h : w.heap[P]? = some (.cells #[.string s, .int .i64 (p : Int), .int .i64 e] 73 (0, 0))) (he : e = 0) (d pn : Nat) (hd : (s.size : Int) - (p : Int) = (d : Int)) (hdn : n ≤ d) (hd6 : d ≤ 1000000) (hpn : pn = p + n) (hs : s.size ≤ 1000000) :
    Calls Try.prog 44 #[.pointer (some ⟨P, 0, none⟩), .int .i64 (n : Int)] w fun e' w' => e' = .returned (.string (s.extract p pn)) ∧ w'.heap[P]? = some (.cells #[.string s, .int .i64 (pn : Int), .int .i64 0] 73 (0, 0)) ∧ Mq P w w' := by
  subst he
  have hw1 := (wr64 d (by omega)).1
  have hw2 := (wr64 d (by omega)).2
  have q1 : (d < n) = False := eq_false (by omega)
  have q2 : (n ≤ d) = True := eq_true hdn
  have q3 : decide ((d : Int) < (n : Int)) = false := decide_eq_false (by omega)
  have hle : pn ≤ s.size := by omega
  have hle2 : p ≤ pn := by omega
  have a1 : (p : Int) + (n : Int) = (pn : Int) := by omega
  have a2 : (pn : Int) - (n : Int) = (p : Int) := by omega
  have a3 := (wr64 pn (by omega)).1
  have a4 := (wr64 pn (by omega)).2
  have a5 := (wr64 p (by omega)).1
  have a6 := (wr64 p (by omega)).2
  clear hdn hd6 hpn
  obtain ⟨c0, c1, c2⟩ := rd_cells h
  have k0 := cell_regrown c0
  have k1 := cell_regrown c1
  have k2 := cell_regrown c2
  have H := Lib.hid h
  clear h c0 c1 c2
  go_enter Try.func44, Try.ntmps44
  go_wp2_with fail
  refine Loose.wp_region_quiet_fast (by kernel_rfl) (by kernel_rfl) ?_
  (try simp only [List.append_eq, List.cons_append, List.nil_append])
  repeat (go_big_quiet_step (fail))
  refine wpQuiet_nil ?_
  intro _ hw'
  obtain ⟨⟨dq, osq⟩, hw''⟩ := hw'
  subst hw''
  clear k0 k1 k2 hd hw1 hw2 q1 q2 q3
  have bQ := below_regrown w dq osq
  obtain ⟨V, hV⟩ : ∃ V, V = Go.Sort.grow (Go.redrawn w dq) osq := ⟨_, rfl⟩
  rw [← hV] at bQ
  rw [← hV]
  have r1 := (bQ.block _ (lt_of_rowQ H.out)).trans H.out
  have BQ := Lib.hid bQ
  clear hV bQ
  obtain ⟨c0, c1, c2⟩ := rd_cells r1
  have fz := frozen_of_row _ _ 1 _ _ r1
  have r2 := heap_setCell_same V P 1 _ _ (.int .i64 (pn : Int)) r1
  have m2 := (Mq.of_below (P := P) BQ.out).set (j := 1) (v := .int .i64 (pn : Int))
  obtain ⟨W2, hW2⟩ : ∃ W, W = V.setCell ⟨P, 1, none⟩ (.int .i64 (pn : Int)) := ⟨_, rfl⟩
  rw [← hW2] at r2 m2
  have r3 : W2.heap[P]? = some (.cells #[.string s, .int .i64 (pn : Int), .int .i64 0] 73 (0, 0)) := by rw [r2]; rfl
  have R := Lib.hid r3
  have M := Lib.hid m2
  have HW := Lib.hid hW2
  clear r1 r2 m2 r3 hW2
  go_wp2_with fail
  rw [← HW.out]
  clear c0 c1 c2 fz HW
  obtain ⟨c0, c1, c2⟩ := rd_cells R.out
  have k0 := cell_regrown c0
  have k1 := cell_regrown c1
  clear c0 c1 c2
  refine Loose.wp_region_quiet_fast (by kernel_rfl) (by kernel_rfl) ?_
  (try simp only [List.append_eq, List.cons_append, List.nil_append])
  repeat (go_big_quiet_step (fail))
  refine wpQuiet_nil ?_
  intro _ hw'
  obtain ⟨⟨dq, osq⟩, hw''⟩ := hw'
  subst hw''
  clear k0 k1 a1 a2 a3 a4 a5 a6
  have bQ := below_regrown W2 dq osq
  go_wp2_with fail
  go_ret
  exact ⟨rfl, (bQ.block _ (lt_of_rowQ R.out)).trans R.out, M.out.trans (Mq.of_below bQ)⟩
theorem take_val (w : World) (P n : Nat) (s : ByteArray) (q : Rst) (h : RdR w P s q) (hq : q.p ≤ s.size) (hs : s.size ≤ 1000000) :
    Calls Try.prog 44 #[.pointer (some ⟨P, 0, none⟩), .int .i64 (n : Int)] w fun e w' => e = .returned (.string (tb s q n)) ∧ RdR w' P s (tk s q n) ∧ Mq P w w' := by
  obtain ⟨p, e⟩ := q
  unfold tb tk RdR at *
  simp only at *
  by_cases he : e = 0
  · by_cases hn : p + n ≤ s.size
    · rw [if_pos ⟨he, hn⟩, if_pos he, if_pos hn]
      exact rtake_ok w P p n e s h he (s.size - p) (p + n) (by omega) (by omega) (by omega) rfl hs
    · rw [if_neg (fun x => hn x.2), if_pos he, if_neg hn]
      exact rtake_short w P p n e s h he (s.size - p) (by omega) (by omega) (by omega)
  · rw [if_neg (fun x => he x.1), if_neg he]
    exact rtake_bad w P p n e s h (beq_eq_false_iff_ne.2 he) (bne_iff_ne.2 he) (eq_false he)
theorem tb_size (s : ByteArray) (q : Rst) (n : Nat) : (tb s q n).size ≤ n := by
  unfold tb
  split
  · rw [ByteArray.size_extract]; omega
  · exact Nat.zero_le _
theorem nm_lt (s : ByteArray) (q : Rst) (n : Nat) : nm s q n < 18446744073709551616 := wget_lt _
theorem nm1_lt (s : ByteArray) (q : Rst) : nm s q 1 < 256 := by
  have h : (tb s q 1).data.toList.length ≤ 1 := tb_size s q 1
  unfold nm wget
  have h2 := wgl_lt ((tb s q 1).data.toList.take 8)
  refine Nat.lt_of_lt_of_le h2 ?_
  rw [List.length_take]
  exact Nat.le_trans (Nat.pow_le_pow_right (by decide) (show min 8 _ ≤ 1 by omega)) (by decide : 256 ^ 1 ≤ 256)
set_option maxRecDepth 100000 in
theorem number_val (w : World) (P n : Nat) (s : ByteArray) (q : Rst) (h : RdR w P s q) (hq : q.p ≤ s.size) (hs : s.size ≤ 1000000) :
    Calls Try.prog 45 #[.pointer (some ⟨P, 0, none⟩), .int .i64 (n : Int)] w fun e w' => e = .returned (.int .u64 (nm s q n : Nat)) ∧ RdR w' P s (tk s q n) ∧ Mq P w w' := by
  have tv := take_val w P n s q h hq hs
  have hsz : (tb s q n).size ≤ 9223372036854775807 := by
    unfold tb
    split
    · rw [ByteArray.size_extract]; omega
    · exact Nat.zero_le _
  have gv := fun W => rGet_val (tb s q n) W (nm s q n) hsz (Lib.hid rfl)
  have TV := Lib.hid tv
  have GV := Lib.hid gv
  clear tv gv hsz h hq hs
  go_enter Try.func45, Try.ntmps45
  go_wp2_with fail
  refine TV.out.mono ?_; rintro e w1 ⟨rfl, r1, m1⟩
  have R1 := Lib.hid r1
  have M1 := Lib.hid m1
  clear r1 m1
  go_wp2_with fail
  refine (GV.out _).mono ?_; rintro e w2 ⟨rfl, rfl⟩
  go_wp2_with fail
  go_ret
  exact ⟨rfl, R1.out, M1.out⟩
set_option maxRecDepth 100000 in
set_option maxHeartbeats 4000000 in
theorem most_bad (w : World) (P m x : Nat) (s : ByteArray) (p : Nat) (e : Int) (g1 : (e == 0) = false) (g2 : (e = 0) = False) (hx : x < 256)
    (hn : Calls Try.prog 45 #[.pointer (some ⟨P, 0, none⟩), .int .i64 1] w fun e' w' => e' = .returned (.int .u64 (x : Int)) ∧ w'.heap[P]? = some (.cells #[.string s, .int .i64 (p : Int), .int .i64 e] 73 (0, 0)) ∧ Mq P w w') :
    Calls Try.prog 43 #[.pointer (some ⟨P, 0, none⟩), .int .i64 (m : Int)] w fun e' w' => e' = .returned (.int .i64 (x : Int)) ∧ w'.heap[P]? = some (.cells #[.string s, .int .i64 (p : Int), .int .i64 e] 73 (0, 0)) ∧ Mq P w w' := by
  have a1 := (wr64 x (by omega)).1
  have a2 := (wr64 x (by omega)).2
  have HN := Lib.hid hn
  clear hn
  go_enter Try.func43, Try.ntmps43
  go_wp2_with fail
  refine HN.out.mono ?_; rintro e' w1 ⟨rfl, r1, m1⟩
  obtain ⟨c0, c1, c2⟩ := rd_cells r1
  have R1 := Lib.hid r1
  have M1 := Lib.hid m1
  clear r1 m1
  go_wp2_with fail
  go_ret
  exact ⟨rfl, R1.out, M1.out⟩
set_option maxRecDepth 100000 in
set_option maxHeartbeats 4000000 in
theorem most_le (w : World) (P m x : Nat) (s : ByteArray) (p : Nat) (e : Int) (he : e = 0) (hxm : x ≤ m) (hx : x < 256)
    (hn : Calls Try.prog 45 #[.pointer (some ⟨P, 0, none⟩), .int .i64 1] w fun e' w' => e' = .returned (.int .u64 (x : Int)) ∧ w'.heap[P]? = some (.cells #[.string s, .int .i64 (p : Int), .int .i64 e] 73 (0, 0)) ∧ Mq P w w') :
    Calls Try.prog 43 #[.pointer (some ⟨P, 0, none⟩), .int .i64 (m : Int)] w fun e' w' => e' = .returned (.int .i64 (x : Int)) ∧ w'.heap[P]? = some (.cells #[.string s, .int .i64 (p : Int), .int .i64 0] 73 (0, 0)) ∧ Mq P w w' := by
  have a1 := (wr64 x (by omega)).1
  have a2 := (wr64 x (by omega)).2
  have HN := Lib.hid hn
  clear hn
  subst he
  have g1 : (m < x) = False := eq_false (by omega)
  have g2 : (x ≤ m) = True := eq_true hxm
  have g3 : decide ((x : Int) > (m : Int)) = false := decide_eq_false (by omega)
  clear hxm
  go_enter Try.func43, Try.ntmps43
  go_wp2_with fail
  refine HN.out.mono ?_; rintro e' w1 ⟨rfl, r1, m1⟩
  obtain ⟨c0, c1, c2⟩ := rd_cells r1
  have R1 := Lib.hid r1
  have M1 := Lib.hid m1
  clear r1 m1
  go_wp2_with fail
  go_ret
  exact ⟨rfl, R1.out, M1.out⟩
set_option maxRecDepth 100000 in
set_option maxHeartbeats 4000000 in
theorem most_gt (w : World) (P m x : Nat) (s : ByteArray) (p : Nat) (e : Int) (he : e = 0) (hxm : m < x) (hx : x < 256)
    (hn : Calls Try.prog 45 #[.pointer (some ⟨P, 0, none⟩), .int .i64 1] w fun e' w' => e' = .returned (.int .u64 (x : Int)) ∧ w'.heap[P]? = some (.cells #[.string s, .int .i64 (p : Int), .int .i64 e] 73 (0, 0)) ∧ Mq P w w') :
    Calls Try.prog 43 #[.pointer (some ⟨P, 0, none⟩), .int .i64 (m : Int)] w fun e' w' => e' = .returned (.int .i64 (x : Int)) ∧ w'.heap[P]? = some (.cells #[.string s, .int .i64 (p : Int), .int .i64 5] 73 (0, 0)) ∧ Mq P w w' := by
  have a1 := (wr64 x (by omega)).1
  have a2 := (wr64 x (by omega)).2
  have HN := Lib.hid hn
  clear hn
  subst he
  have g1 : (m < x) = True := eq_true hxm
  have g2 : (x ≤ m) = False := eq_false (by omega)
  have g3 : decide ((x : Int) > (m : Int)) = true := decide_eq_true (by omega)
  clear hxm
  go_enter Try.func43, Try.ntmps43
  go_wp2_with fail
  refine HN.out.mono ?_; rintro e' w1 ⟨rfl, r1, m1⟩
  obtain ⟨c0, c1, c2⟩ := rd_cells r1
  have fz := frozen_of_row _ _ 2 _ _ r1
  have r2 := heap_setCell_same w1 P 2 _ _ (.int .i64 5) r1
  have r3 : (w1.setCell ⟨P, 2, none⟩ (.int .i64 5)).heap[P]? = some (.cells #[.string s, .int .i64 (p : Int), .int .i64 5] 73 (0, 0)) := by rw [r2]; rfl
  have R3 := Lib.hid r3
  have M3 := Lib.hid (m1.set (j := 2) (v := .int .i64 5))
  clear r1 m1 r2 r3
  go_wp2_with fail
  go_ret
  exact ⟨rfl, R3.out, M3.out⟩
theorem most_val (w : World) (P m : Nat) (s : ByteArray) (q : Rst) (h : RdR w P s q) (hq : q.p ≤ s.size) (hs : s.size ≤ 1000000) :
    Calls Try.prog 43 #[.pointer (some ⟨P, 0, none⟩), .int .i64 (m : Int)] w fun e w' => e = .returned (.int .i64 (nm s q 1 : Nat)) ∧ RdR w' P s (mo s q m) ∧ Mq P w w' := by
  have nv := number_val w P 1 s q h hq hs
  have hx := nm1_lt s q
  unfold mo RdR at *
  obtain ⟨t, ht⟩ : ∃ t, t = tk s q 1 := ⟨_, rfl⟩
  rw [← ht] at nv ⊢
  obtain ⟨p, e⟩ := t
  by_cases he : e = 0
  · by_cases hxm : m < nm s q 1
    · rw [if_pos ⟨he, hxm⟩]; exact most_gt w P m _ s p e he hxm hx nv
    · rw [if_neg (fun x => hxm x.2)]; subst he; exact most_le w P m _ s p 0 rfl (by omega) hx nv
  · rw [if_neg (fun x => he x.1)]; exact most_bad w P m _ s p e (beq_eq_false_iff_ne.2 he) (eq_false he) hx nv
end Go.Proofs.Ytjkiofgllmjkcaa.G
