/- Whether an act may be: script.Right. -/
import Derived.Test.YtjkiofgllmjkcaaS3c
import Derived.Test.YtjkiofgllmjkcaaGFast
import Derived.BigQuiet
namespace Go.Proofs.Ytjkiofgllmjkcaa.G
open Go.RowKit
set_option linter.unusedVariables false
set_option linter.unusedSimpArgs false

set_option maxRecDepth 100000 in
set_option maxHeartbeats 2000000 in
theorem right_ns (k rk p to pl : Int) (i v : ByteArray) (t n m cap : Nat) (oa : Option Addr) (w : World) (o : Value) 
    (HO : Hid (∀ W, Calls Try.prog 33 #[.agg #[.int .i64 k, .int .i64 rk, .string i, .string v, .float .f64 t, .int .i64 p, .int .u64 n, .slice oa m cap, .int .i64 to, .int .i64 pl]] W fun e w' => e = .returned o ∧ Below W.heap.size W w'))
    (HS : Hid (∀ W, Below w.heap.size w W → Calls Try.prog 19 #[.agg #[.int .i64 k, .int .i64 rk, .string i, .string v, .float .f64 t, .int .i64 p, .int .u64 n, .slice oa m cap, .int .i64 to, .int .i64 pl], o] W fun e w' => e = .returned (.bool false) ∧ Below W.heap.size W w')) :
    Calls Try.prog 16 #[.agg #[.int .i64 k, .int .i64 rk, .string i, .string v, .float .f64 t, .int .i64 p, .int .u64 n, .slice oa m cap, .int .i64 to, .int .i64 pl]] w fun e w' => e = .returned (.bool false) ∧ Below w.heap.size w w' := by
  have n1 := heap_alloc_new w (.cells #[.int .i64 k, .int .i64 rk, .string i, .string v, .float .f64 t, .int .i64 p, .int .u64 n, .slice oa m cap, .int .i64 to, .int .i64 pl] 29)
  have n3 := (Below.refl w.heap.size w).alloc (Nat.le_refl _) (.cells #[.int .i64 k, .int .i64 rk, .string i, .string v, .float .f64 t, .int .i64 p, .int .u64 n, .slice oa m cap, .int .i64 to, .int .i64 pl] 29)
  obtain ⟨W, hW⟩ : ∃ W, W = w.alloc (.cells #[.int .i64 k, .int .i64 rk, .string i, .string v, .float .f64 t, .int .i64 p, .int .u64 n, .slice oa m cap, .int .i64 to, .int .i64 pl] 29) := ⟨_, rfl⟩
  rw [← hW] at n1 n3
  have HW := Lib.hid hW
  have RA : Hid (∀ V, Below W.heap.size W V → V.heap[w.heap.size]? = some (.cells #[.int .i64 k, .int .i64 rk, .string i, .string v, .float .f64 t, .int .i64 p, .int .u64 n, .slice oa m cap, .int .i64 to, .int .i64 pl] 29 (0, 0))) := Lib.hid (fun V h => (h.block _ (lt_of_rowS n1)).trans n1)
  have N3 := Lib.hid n3
  obtain ⟨a0, a1, a2, a3, a4, a5, a6, a7, a8, a9⟩ := cells10 n1
  have A0 := cell_regrown a0
  have A1 := cell_regrown a1
  have A2 := cell_regrown a2
  have A3 := cell_regrown a3
  have A4 := cell_regrown a4
  have A5 := cell_regrown a5
  have A6 := cell_regrown a6
  have A7 := cell_regrown a7
  have A8 := cell_regrown a8
  have A9 := cell_regrown a9
  clear n1 n3 hW a0 a1 a2 a3 a4 a5 a6 a7 a8 a9
  go_enter Try.func16, Try.ntmps16
  go_wp2_with fail
  rw [← HW.out]
  refine Loose.wp_region_quiet_fast (by kernel_rfl) (by kernel_rfl) ?_
  (try simp only [List.append_eq, List.cons_append, List.nil_append])
  repeat (go_big_quiet_step (fail))
  go_big_quiet_step ((go_at_call 33; exact Calls.regrown_of (HO.out _)))
  repeat (go_big_quiet_step (fail))
  go_big_quiet_step ((go_at_call 19; exact Calls.regrown_of (HS.out _ (below_step N3.out (below_regrown _ _ _)))))
  repeat (go_big_quiet_step (fail))
  refine wpQuiet_nil ?_
  intro _ hw'
  obtain ⟨⟨dq, osq⟩, hw''⟩ := hw'
  subst hw''
  clear A0 A1 A2 A3 A4 A5 A6 A7 A8 A9
  obtain ⟨V, hV, h4⟩ : ∃ V, V = _ ∧ Below W.heap.size W V := ⟨_, rfl, below_regrown W dq osq⟩
  rw [← hV]
  clear hV
  obtain ⟨a0, a1, a2, a3, a4, a5, a6, a7, a8, a9⟩ := cells10 (RA.out V h4)
  go_wp2_with fail
  go_ret
  exact ⟨rfl, below_step N3.out h4⟩

set_option maxRecDepth 100000 in
set_option maxHeartbeats 2000000 in
theorem right_0a (k rk p to pl : Int) (i v : ByteArray) (t n m cap : Nat) (oa : Option Addr) (w : World) (o : Value) (k0 : (k == 0) = true) (H1 : (Hid (∀ W, Calls Try.prog 34 #[.int .i64 rk, .int .i64 255] W fun e w' => e = .returned (.bool false) ∧ Below W.heap.size W w')))
    (HO : Hid (∀ W, Calls Try.prog 33 #[.agg #[.int .i64 k, .int .i64 rk, .string i, .string v, .float .f64 t, .int .i64 p, .int .u64 n, .slice oa m cap, .int .i64 to, .int .i64 pl]] W fun e w' => e = .returned o ∧ Below W.heap.size W w'))
    (HS : Hid (∀ W, Below w.heap.size w W → Calls Try.prog 19 #[.agg #[.int .i64 k, .int .i64 rk, .string i, .string v, .float .f64 t, .int .i64 p, .int .u64 n, .slice oa m cap, .int .i64 to, .int .i64 pl], o] W fun e w' => e = .returned (.bool true) ∧ Below W.heap.size W w')) :
    Calls Try.prog 16 #[.agg #[.int .i64 k, .int .i64 rk, .string i, .string v, .float .f64 t, .int .i64 p, .int .u64 n, .slice oa m cap, .int .i64 to, .int .i64 pl]] w fun e w' => e = .returned (.bool false) ∧ Below w.heap.size w w' := by
  have n1 := heap_alloc_new w (.cells #[.int .i64 k, .int .i64 rk, .string i, .string v, .float .f64 t, .int .i64 p, .int .u64 n, .slice oa m cap, .int .i64 to, .int .i64 pl] 29)
  have n3 := (Below.refl w.heap.size w).alloc (Nat.le_refl _) (.cells #[.int .i64 k, .int .i64 rk, .string i, .string v, .float .f64 t, .int .i64 p, .int .u64 n, .slice oa m cap, .int .i64 to, .int .i64 pl] 29)
  obtain ⟨W, hW⟩ : ∃ W, W = w.alloc (.cells #[.int .i64 k, .int .i64 rk, .string i, .string v, .float .f64 t, .int .i64 p, .int .u64 n, .slice oa m cap, .int .i64 to, .int .i64 pl] 29) := ⟨_, rfl⟩
  rw [← hW] at n1 n3
  have HW := Lib.hid hW
  have RA : Hid (∀ V, Below W.heap.size W V → V.heap[w.heap.size]? = some (.cells #[.int .i64 k, .int .i64 rk, .string i, .string v, .float .f64 t, .int .i64 p, .int .u64 n, .slice oa m cap, .int .i64 to, .int .i64 pl] 29 (0, 0))) := Lib.hid (fun V h => (h.block _ (lt_of_rowS n1)).trans n1)
  have N3 := Lib.hid n3
  obtain ⟨a0, a1, a2, a3, a4, a5, a6, a7, a8, a9⟩ := cells10 n1
  have A0 := cell_regrown a0
  have A1 := cell_regrown a1
  have A2 := cell_regrown a2
  have A3 := cell_regrown a3
  have A4 := cell_regrown a4
  have A5 := cell_regrown a5
  have A6 := cell_regrown a6
  have A7 := cell_regrown a7
  have A8 := cell_regrown a8
  have A9 := cell_regrown a9
  clear n1 n3 hW a0 a1 a2 a3 a4 a5 a6 a7 a8 a9
  go_enter Try.func16, Try.ntmps16
  go_wp2_with fail
  rw [← HW.out]
  refine Loose.wp_region_quiet_fast (by kernel_rfl) (by kernel_rfl) ?_
  (try simp only [List.append_eq, List.cons_append, List.nil_append])
  repeat (go_big_quiet_step (fail))
  go_big_quiet_step ((go_at_call 33; exact Calls.regrown_of (HO.out _)))
  repeat (go_big_quiet_step (fail))
  go_big_quiet_step ((go_at_call 19; exact Calls.regrown_of (HS.out _ (below_step N3.out (below_regrown _ _ _)))))
  repeat (go_big_quiet_step (fail))
  refine wpQuiet_nil ?_
  intro _ hw'
  obtain ⟨⟨dq, osq⟩, hw''⟩ := hw'
  subst hw''
  clear A0 A1 A2 A3 A4 A5 A6 A7 A8 A9
  obtain ⟨V, hV, h4⟩ : ∃ V, V = _ ∧ Below W.heap.size W V := ⟨_, rfl, below_regrown W dq osq⟩
  rw [← hV]
  clear hV
  obtain ⟨a0, a1, a2, a3, a4, a5, a6, a7, a8, a9⟩ := cells10 (RA.out V h4)
  go_wp2_with fail
  clear a0 a1 a2 a3 a4 a5 a6 a7 a8 a9
  refine (H1.out _).mono ?_; rintro e w0 ⟨rfl, hb⟩
  have g0 := below_step h4 hb
  clear hb h4
  obtain ⟨a0, a1, a2, a3, a4, a5, a6, a7, a8, a9⟩ := cells10 (RA.out _ g0)
  go_wp2_with fail
  go_ret
  exact ⟨rfl, below_step N3.out g0⟩

set_option maxRecDepth 100000 in
set_option maxHeartbeats 2000000 in
theorem right_0b (k rk p to pl : Int) (i v : ByteArray) (t n m cap : Nat) (oa : Option Addr) (w : World) (o : Value) (k0 : (k == 0) = true) (H1 : (Hid (∀ W, Calls Try.prog 34 #[.int .i64 rk, .int .i64 255] W fun e w' => e = .returned (.bool true) ∧ Below W.heap.size W w'))) (l1 : decide ((i.size : Int) ≤ 255) = false)
    (HO : Hid (∀ W, Calls Try.prog 33 #[.agg #[.int .i64 k, .int .i64 rk, .string i, .string v, .float .f64 t, .int .i64 p, .int .u64 n, .slice oa m cap, .int .i64 to, .int .i64 pl]] W fun e w' => e = .returned o ∧ Below W.heap.size W w'))
    (HS : Hid (∀ W, Below w.heap.size w W → Calls Try.prog 19 #[.agg #[.int .i64 k, .int .i64 rk, .string i, .string v, .float .f64 t, .int .i64 p, .int .u64 n, .slice oa m cap, .int .i64 to, .int .i64 pl], o] W fun e w' => e = .returned (.bool true) ∧ Below W.heap.size W w')) :
    Calls Try.prog 16 #[.agg #[.int .i64 k, .int .i64 rk, .string i, .string v, .float .f64 t, .int .i64 p, .int .u64 n, .slice oa m cap, .int .i64 to, .int .i64 pl]] w fun e w' => e = .returned (.bool false) ∧ Below w.heap.size w w' := by
  have n1 := heap_alloc_new w (.cells #[.int .i64 k, .int .i64 rk, .string i, .string v, .float .f64 t, .int .i64 p, .int .u64 n, .slice oa m cap, .int .i64 to, .int .i64 pl] 29)
  have n3 := (Below.refl w.heap.size w).alloc (Nat.le_refl _) (.cells #[.int .i64 k, .int .i64 rk, .string i, .string v, .float .f64 t, .int .i64 p, .int .u64 n, .slice oa m cap, .int .i64 to, .int .i64 pl] 29)
  obtain ⟨W, hW⟩ : ∃ W, W = w.alloc (.cells #[.int .i64 k, .int .i64 rk, .string i, .string v, .float .f64 t, .int .i64 p, .int .u64 n, .slice oa m cap, .int .i64 to, .int .i64 pl] 29) := ⟨_, rfl⟩
  rw [← hW] at n1 n3
  have HW := Lib.hid hW
  have RA : Hid (∀ V, Below W.heap.size W V → V.heap[w.heap.size]? = some (.cells #[.int .i64 k, .int .i64 rk, .string i, .string v, .float .f64 t, .int .i64 p, .int .u64 n, .slice oa m cap, .int .i64 to, .int .i64 pl] 29 (0, 0))) := Lib.hid (fun V h => (h.block _ (lt_of_rowS n1)).trans n1)
  have N3 := Lib.hid n3
  obtain ⟨a0, a1, a2, a3, a4, a5, a6, a7, a8, a9⟩ := cells10 n1
  have A0 := cell_regrown a0
  have A1 := cell_regrown a1
  have A2 := cell_regrown a2
  have A3 := cell_regrown a3
  have A4 := cell_regrown a4
  have A5 := cell_regrown a5
  have A6 := cell_regrown a6
  have A7 := cell_regrown a7
  have A8 := cell_regrown a8
  have A9 := cell_regrown a9
  clear n1 n3 hW a0 a1 a2 a3 a4 a5 a6 a7 a8 a9
  go_enter Try.func16, Try.ntmps16
  go_wp2_with fail
  rw [← HW.out]
  refine Loose.wp_region_quiet_fast (by kernel_rfl) (by kernel_rfl) ?_
  (try simp only [List.append_eq, List.cons_append, List.nil_append])
  repeat (go_big_quiet_step (fail))
  go_big_quiet_step ((go_at_call 33; exact Calls.regrown_of (HO.out _)))
  repeat (go_big_quiet_step (fail))
  go_big_quiet_step ((go_at_call 19; exact Calls.regrown_of (HS.out _ (below_step N3.out (below_regrown _ _ _)))))
  repeat (go_big_quiet_step (fail))
  refine wpQuiet_nil ?_
  intro _ hw'
  obtain ⟨⟨dq, osq⟩, hw''⟩ := hw'
  subst hw''
  clear A0 A1 A2 A3 A4 A5 A6 A7 A8 A9
  obtain ⟨V, hV, h4⟩ : ∃ V, V = _ ∧ Below W.heap.size W V := ⟨_, rfl, below_regrown W dq osq⟩
  rw [← hV]
  clear hV
  obtain ⟨a0, a1, a2, a3, a4, a5, a6, a7, a8, a9⟩ := cells10 (RA.out V h4)
  go_wp2_with fail
  clear a0 a1 a2 a3 a4 a5 a6 a7 a8 a9
  refine (H1.out _).mono ?_; rintro e w0 ⟨rfl, hb⟩
  have g0 := below_step h4 hb
  clear hb h4
  obtain ⟨a0, a1, a2, a3, a4, a5, a6, a7, a8, a9⟩ := cells10 (RA.out _ g0)
  go_wp2_with fail
  go_ret
  exact ⟨rfl, below_step N3.out g0⟩

set_option maxRecDepth 100000 in
set_option maxHeartbeats 2000000 in
theorem right_0c (k rk p to pl : Int) (i v : ByteArray) (t n m cap : Nat) (oa : Option Addr) (w : World) (o : Value) (k0 : (k == 0) = true) (H1 : (Hid (∀ W, Calls Try.prog 34 #[.int .i64 rk, .int .i64 255] W fun e w' => e = .returned (.bool true) ∧ Below W.heap.size W w'))) (l1 : decide ((i.size : Int) ≤ 255) = true) (l2 : decide ((v.size : Int) ≤ 255) = false)
    (HO : Hid (∀ W, Calls Try.prog 33 #[.agg #[.int .i64 k, .int .i64 rk, .string i, .string v, .float .f64 t, .int .i64 p, .int .u64 n, .slice oa m cap, .int .i64 to, .int .i64 pl]] W fun e w' => e = .returned o ∧ Below W.heap.size W w'))
    (HS : Hid (∀ W, Below w.heap.size w W → Calls Try.prog 19 #[.agg #[.int .i64 k, .int .i64 rk, .string i, .string v, .float .f64 t, .int .i64 p, .int .u64 n, .slice oa m cap, .int .i64 to, .int .i64 pl], o] W fun e w' => e = .returned (.bool true) ∧ Below W.heap.size W w')) :
    Calls Try.prog 16 #[.agg #[.int .i64 k, .int .i64 rk, .string i, .string v, .float .f64 t, .int .i64 p, .int .u64 n, .slice oa m cap, .int .i64 to, .int .i64 pl]] w fun e w' => e = .returned (.bool false) ∧ Below w.heap.size w w' := by
  have n1 := heap_alloc_new w (.cells #[.int .i64 k, .int .i64 rk, .string i, .string v, .float .f64 t, .int .i64 p, .int .u64 n, .slice oa m cap, .int .i64 to, .int .i64 pl] 29)
  have n3 := (Below.refl w.heap.size w).alloc (Nat.le_refl _) (.cells #[.int .i64 k, .int .i64 rk, .string i, .string v, .float .f64 t, .int .i64 p, .int .u64 n, .slice oa m cap, .int .i64 to, .int .i64 pl] 29)
  obtain ⟨W, hW⟩ : ∃ W, W = w.alloc (.cells #[.int .i64 k, .int .i64 rk, .string i, .string v, .float .f64 t, .int .i64 p, .int .u64 n, .slice oa m cap, .int .i64 to, .int .i64 pl] 29) := ⟨_, rfl⟩
  rw [← hW] at n1 n3
  have HW := Lib.hid hW
  have RA : Hid (∀ V, Below W.heap.size W V → V.heap[w.heap.size]? = some (.cells #[.int .i64 k, .int .i64 rk, .string i, .string v, .float .f64 t, .int .i64 p, .int .u64 n, .slice oa m cap, .int .i64 to, .int .i64 pl] 29 (0, 0))) := Lib.hid (fun V h => (h.block _ (lt_of_rowS n1)).trans n1)
  have N3 := Lib.hid n3
  obtain ⟨a0, a1, a2, a3, a4, a5, a6, a7, a8, a9⟩ := cells10 n1
  have A0 := cell_regrown a0
  have A1 := cell_regrown a1
  have A2 := cell_regrown a2
  have A3 := cell_regrown a3
  have A4 := cell_regrown a4
  have A5 := cell_regrown a5
  have A6 := cell_regrown a6
  have A7 := cell_regrown a7
  have A8 := cell_regrown a8
  have A9 := cell_regrown a9
  clear n1 n3 hW a0 a1 a2 a3 a4 a5 a6 a7 a8 a9
  go_enter Try.func16, Try.ntmps16
  go_wp2_with fail
  rw [← HW.out]
  refine Loose.wp_region_quiet_fast (by kernel_rfl) (by kernel_rfl) ?_
  (try simp only [List.append_eq, List.cons_append, List.nil_append])
  repeat (go_big_quiet_step (fail))
  go_big_quiet_step ((go_at_call 33; exact Calls.regrown_of (HO.out _)))
  repeat (go_big_quiet_step (fail))
  go_big_quiet_step ((go_at_call 19; exact Calls.regrown_of (HS.out _ (below_step N3.out (below_regrown _ _ _)))))
  repeat (go_big_quiet_step (fail))
  refine wpQuiet_nil ?_
  intro _ hw'
  obtain ⟨⟨dq, osq⟩, hw''⟩ := hw'
  subst hw''
  clear A0 A1 A2 A3 A4 A5 A6 A7 A8 A9
  obtain ⟨V, hV, h4⟩ : ∃ V, V = _ ∧ Below W.heap.size W V := ⟨_, rfl, below_regrown W dq osq⟩
  rw [← hV]
  clear hV
  obtain ⟨a0, a1, a2, a3, a4, a5, a6, a7, a8, a9⟩ := cells10 (RA.out V h4)
  go_wp2_with fail
  clear a0 a1 a2 a3 a4 a5 a6 a7 a8 a9
  refine (H1.out _).mono ?_; rintro e w0 ⟨rfl, hb⟩
  have g0 := below_step h4 hb
  clear hb h4
  obtain ⟨a0, a1, a2, a3, a4, a5, a6, a7, a8, a9⟩ := cells10 (RA.out _ g0)
  go_wp2_with fail
  go_ret
  exact ⟨rfl, below_step N3.out g0⟩

set_option maxRecDepth 100000 in
set_option maxHeartbeats 2000000 in
theorem right_0d (k rk p to pl : Int) (i v : ByteArray) (t n m cap : Nat) (oa : Option Addr) (w : World) (o : Value) (k0 : (k == 0) = true) (H1 : (Hid (∀ W, Calls Try.prog 34 #[.int .i64 rk, .int .i64 255] W fun e w' => e = .returned (.bool true) ∧ Below W.heap.size W w'))) (l1 : decide ((i.size : Int) ≤ 255) = true) (l2 : decide ((v.size : Int) ≤ 255) = true) (z : Bool) (H2 : (Hid (∀ W, Calls Try.prog 34 #[.int .i64 p, .int .i64 255] W fun e w' => e = .returned (.bool z) ∧ Below W.heap.size W w')))
    (HO : Hid (∀ W, Calls Try.prog 33 #[.agg #[.int .i64 k, .int .i64 rk, .string i, .string v, .float .f64 t, .int .i64 p, .int .u64 n, .slice oa m cap, .int .i64 to, .int .i64 pl]] W fun e w' => e = .returned o ∧ Below W.heap.size W w'))
    (HS : Hid (∀ W, Below w.heap.size w W → Calls Try.prog 19 #[.agg #[.int .i64 k, .int .i64 rk, .string i, .string v, .float .f64 t, .int .i64 p, .int .u64 n, .slice oa m cap, .int .i64 to, .int .i64 pl], o] W fun e w' => e = .returned (.bool true) ∧ Below W.heap.size W w')) :
    Calls Try.prog 16 #[.agg #[.int .i64 k, .int .i64 rk, .string i, .string v, .float .f64 t, .int .i64 p, .int .u64 n, .slice oa m cap, .int .i64 to, .int .i64 pl]] w fun e w' => e = .returned (.bool z) ∧ Below w.heap.size w w' := by
  have n1 := heap_alloc_new w (.cells #[.int .i64 k, .int .i64 rk, .string i, .string v, .float .f64 t, .int .i64 p, .int .u64 n, .slice oa m cap, .int .i64 to, .int .i64 pl] 29)
  have n3 := (Below.refl w.heap.size w).alloc (Nat.le_refl _) (.cells #[.int .i64 k, .int .i64 rk, .string i, .string v, .float .f64 t, .int .i64 p, .int .u64 n, .slice oa m cap, .int .i64 to, .int .i64 pl] 29)
  obtain ⟨W, hW⟩ : ∃ W, W = w.alloc (.cells #[.int .i64 k, .int .i64 rk, .string i, .string v, .float .f64 t, .int .i64 p, .int .u64 n, .slice oa m cap, .int .i64 to, .int .i64 pl] 29) := ⟨_, rfl⟩
  rw [← hW] at n1 n3
  have HW := Lib.hid hW
  have RA : Hid (∀ V, Below W.heap.size W V → V.heap[w.heap.size]? = some (.cells #[.int .i64 k, .int .i64 rk, .string i, .string v, .float .f64 t, .int .i64 p, .int .u64 n, .slice oa m cap, .int .i64 to, .int .i64 pl] 29 (0, 0))) := Lib.hid (fun V h => (h.block _ (lt_of_rowS n1)).trans n1)
  have N3 := Lib.hid n3
  obtain ⟨a0, a1, a2, a3, a4, a5, a6, a7, a8, a9⟩ := cells10 n1
  have A0 := cell_regrown a0
  have A1 := cell_regrown a1
  have A2 := cell_regrown a2
  have A3 := cell_regrown a3
  have A4 := cell_regrown a4
  have A5 := cell_regrown a5
  have A6 := cell_regrown a6
  have A7 := cell_regrown a7
  have A8 := cell_regrown a8
  have A9 := cell_regrown a9
  clear n1 n3 hW a0 a1 a2 a3 a4 a5 a6 a7 a8 a9
  go_enter Try.func16, Try.ntmps16
  go_wp2_with fail
  rw [← HW.out]
  refine Loose.wp_region_quiet_fast (by kernel_rfl) (by kernel_rfl) ?_
  (try simp only [List.append_eq, List.cons_append, List.nil_append])
  repeat (go_big_quiet_step (fail))
  go_big_quiet_step ((go_at_call 33; exact Calls.regrown_of (HO.out _)))
  repeat (go_big_quiet_step (fail))
  go_big_quiet_step ((go_at_call 19; exact Calls.regrown_of (HS.out _ (below_step N3.out (below_regrown _ _ _)))))
  repeat (go_big_quiet_step (fail))
  refine wpQuiet_nil ?_
  intro _ hw'
  obtain ⟨⟨dq, osq⟩, hw''⟩ := hw'
  subst hw''
  clear A0 A1 A2 A3 A4 A5 A6 A7 A8 A9
  obtain ⟨V, hV, h4⟩ : ∃ V, V = _ ∧ Below W.heap.size W V := ⟨_, rfl, below_regrown W dq osq⟩
  rw [← hV]
  clear hV
  obtain ⟨a0, a1, a2, a3, a4, a5, a6, a7, a8, a9⟩ := cells10 (RA.out V h4)
  go_wp2_with fail
  clear a0 a1 a2 a3 a4 a5 a6 a7 a8 a9
  refine (H1.out _).mono ?_; rintro e w0 ⟨rfl, hb⟩
  have g0 := below_step h4 hb
  clear hb h4
  obtain ⟨a0, a1, a2, a3, a4, a5, a6, a7, a8, a9⟩ := cells10 (RA.out _ g0)
  go_wp2_with fail
  clear a0 a1 a2 a3 a4 a5 a6 a7 a8 a9
  refine (H2.out _).mono ?_; rintro e w1 ⟨rfl, hb⟩
  have g1 := below_step g0 hb
  clear hb g0
  obtain ⟨a0, a1, a2, a3, a4, a5, a6, a7, a8, a9⟩ := cells10 (RA.out _ g1)
  go_wp2_with fail
  go_ret
  exact ⟨rfl, below_step N3.out g1⟩

set_option maxRecDepth 100000 in
set_option maxHeartbeats 2000000 in
theorem right_2 (k rk p to pl : Int) (i v : ByteArray) (t n m cap : Nat) (oa : Option Addr) (w : World) (o : Value) (k0 : (k == 0) = false) (k2 : (k == 2) = true) (z : Bool) (q : decide ((n : Int) ≤ 255) = z)
    (HO : Hid (∀ W, Calls Try.prog 33 #[.agg #[.int .i64 k, .int .i64 rk, .string i, .string v, .float .f64 t, .int .i64 p, .int .u64 n, .slice oa m cap, .int .i64 to, .int .i64 pl]] W fun e w' => e = .returned o ∧ Below W.heap.size W w'))
    (HS : Hid (∀ W, Below w.heap.size w W → Calls Try.prog 19 #[.agg #[.int .i64 k, .int .i64 rk, .string i, .string v, .float .f64 t, .int .i64 p, .int .u64 n, .slice oa m cap, .int .i64 to, .int .i64 pl], o] W fun e w' => e = .returned (.bool true) ∧ Below W.heap.size W w')) :
    Calls Try.prog 16 #[.agg #[.int .i64 k, .int .i64 rk, .string i, .string v, .float .f64 t, .int .i64 p, .int .u64 n, .slice oa m cap, .int .i64 to, .int .i64 pl]] w fun e w' => e = .returned (.bool z) ∧ Below w.heap.size w w' := by
  have n1 := heap_alloc_new w (.cells #[.int .i64 k, .int .i64 rk, .string i, .string v, .float .f64 t, .int .i64 p, .int .u64 n, .slice oa m cap, .int .i64 to, .int .i64 pl] 29)
  have n3 := (Below.refl w.heap.size w).alloc (Nat.le_refl _) (.cells #[.int .i64 k, .int .i64 rk, .string i, .string v, .float .f64 t, .int .i64 p, .int .u64 n, .slice oa m cap, .int .i64 to, .int .i64 pl] 29)
  obtain ⟨W, hW⟩ : ∃ W, W = w.alloc (.cells #[.int .i64 k, .int .i64 rk, .string i, .string v, .float .f64 t, .int .i64 p, .int .u64 n, .slice oa m cap, .int .i64 to, .int .i64 pl] 29) := ⟨_, rfl⟩
  rw [← hW] at n1 n3
  have HW := Lib.hid hW
  have RA : Hid (∀ V, Below W.heap.size W V → V.heap[w.heap.size]? = some (.cells #[.int .i64 k, .int .i64 rk, .string i, .string v, .float .f64 t, .int .i64 p, .int .u64 n, .slice oa m cap, .int .i64 to, .int .i64 pl] 29 (0, 0))) := Lib.hid (fun V h => (h.block _ (lt_of_rowS n1)).trans n1)
  have N3 := Lib.hid n3
  obtain ⟨a0, a1, a2, a3, a4, a5, a6, a7, a8, a9⟩ := cells10 n1
  have A0 := cell_regrown a0
  have A1 := cell_regrown a1
  have A2 := cell_regrown a2
  have A3 := cell_regrown a3
  have A4 := cell_regrown a4
  have A5 := cell_regrown a5
  have A6 := cell_regrown a6
  have A7 := cell_regrown a7
  have A8 := cell_regrown a8
  have A9 := cell_regrown a9
  clear n1 n3 hW a0 a1 a2 a3 a4 a5 a6 a7 a8 a9
  go_enter Try.func16, Try.ntmps16
  go_wp2_with fail
  rw [← HW.out]
  refine Loose.wp_region_quiet_fast (by kernel_rfl) (by kernel_rfl) ?_
  (try simp only [List.append_eq, List.cons_append, List.nil_append])
  repeat (go_big_quiet_step (fail))
  go_big_quiet_step ((go_at_call 33; exact Calls.regrown_of (HO.out _)))
  repeat (go_big_quiet_step (fail))
  go_big_quiet_step ((go_at_call 19; exact Calls.regrown_of (HS.out _ (below_step N3.out (below_regrown _ _ _)))))
  repeat (go_big_quiet_step (fail))
  refine wpQuiet_nil ?_
  intro _ hw'
  obtain ⟨⟨dq, osq⟩, hw''⟩ := hw'
  subst hw''
  clear A0 A1 A2 A3 A4 A5 A6 A7 A8 A9
  obtain ⟨V, hV, h4⟩ : ∃ V, V = _ ∧ Below W.heap.size W V := ⟨_, rfl, below_regrown W dq osq⟩
  rw [← hV]
  clear hV
  obtain ⟨a0, a1, a2, a3, a4, a5, a6, a7, a8, a9⟩ := cells10 (RA.out V h4)
  go_wp2_with fail
  go_ret
  exact ⟨rfl, below_step N3.out h4⟩

set_option maxRecDepth 100000 in
set_option maxHeartbeats 2000000 in
theorem right_4 (k rk p to pl : Int) (i v : ByteArray) (t n m cap : Nat) (oa : Option Addr) (w : World) (o : Value) (k0 : (k == 0) = false) (k2 : (k == 2) = false) (k4 : (k == 4) = true) (z : Bool) (q : decide ((n : Int) ≤ 65535) = z)
    (HO : Hid (∀ W, Calls Try.prog 33 #[.agg #[.int .i64 k, .int .i64 rk, .string i, .string v, .float .f64 t, .int .i64 p, .int .u64 n, .slice oa m cap, .int .i64 to, .int .i64 pl]] W fun e w' => e = .returned o ∧ Below W.heap.size W w'))
    (HS : Hid (∀ W, Below w.heap.size w W → Calls Try.prog 19 #[.agg #[.int .i64 k, .int .i64 rk, .string i, .string v, .float .f64 t, .int .i64 p, .int .u64 n, .slice oa m cap, .int .i64 to, .int .i64 pl], o] W fun e w' => e = .returned (.bool true) ∧ Below W.heap.size W w')) :
    Calls Try.prog 16 #[.agg #[.int .i64 k, .int .i64 rk, .string i, .string v, .float .f64 t, .int .i64 p, .int .u64 n, .slice oa m cap, .int .i64 to, .int .i64 pl]] w fun e w' => e = .returned (.bool z) ∧ Below w.heap.size w w' := by
  have n1 := heap_alloc_new w (.cells #[.int .i64 k, .int .i64 rk, .string i, .string v, .float .f64 t, .int .i64 p, .int .u64 n, .slice oa m cap, .int .i64 to, .int .i64 pl] 29)
  have n3 := (Below.refl w.heap.size w).alloc (Nat.le_refl _) (.cells #[.int .i64 k, .int .i64 rk, .string i, .string v, .float .f64 t, .int .i64 p, .int .u64 n, .slice oa m cap, .int .i64 to, .int .i64 pl] 29)
  obtain ⟨W, hW⟩ : ∃ W, W = w.alloc (.cells #[.int .i64 k, .int .i64 rk, .string i, .string v, .float .f64 t, .int .i64 p, .int .u64 n, .slice oa m cap, .int .i64 to, .int .i64 pl] 29) := ⟨_, rfl⟩
  rw [← hW] at n1 n3
  have HW := Lib.hid hW
  have RA : Hid (∀ V, Below W.heap.size W V → V.heap[w.heap.size]? = some (.cells #[.int .i64 k, .int .i64 rk, .string i, .string v, .float .f64 t, .int .i64 p, .int .u64 n, .slice oa m cap, .int .i64 to, .int .i64 pl] 29 (0, 0))) := Lib.hid (fun V h => (h.block _ (lt_of_rowS n1)).trans n1)
  have N3 := Lib.hid n3
  obtain ⟨a0, a1, a2, a3, a4, a5, a6, a7, a8, a9⟩ := cells10 n1
  have A0 := cell_regrown a0
  have A1 := cell_regrown a1
  have A2 := cell_regrown a2
  have A3 := cell_regrown a3
  have A4 := cell_regrown a4
  have A5 := cell_regrown a5
  have A6 := cell_regrown a6
  have A7 := cell_regrown a7
  have A8 := cell_regrown a8
  have A9 := cell_regrown a9
  clear n1 n3 hW a0 a1 a2 a3 a4 a5 a6 a7 a8 a9
  go_enter Try.func16, Try.ntmps16
  go_wp2_with fail
  rw [← HW.out]
  refine Loose.wp_region_quiet_fast (by kernel_rfl) (by kernel_rfl) ?_
  (try simp only [List.append_eq, List.cons_append, List.nil_append])
  repeat (go_big_quiet_step (fail))
  go_big_quiet_step ((go_at_call 33; exact Calls.regrown_of (HO.out _)))
  repeat (go_big_quiet_step (fail))
  go_big_quiet_step ((go_at_call 19; exact Calls.regrown_of (HS.out _ (below_step N3.out (below_regrown _ _ _)))))
  repeat (go_big_quiet_step (fail))
  refine wpQuiet_nil ?_
  intro _ hw'
  obtain ⟨⟨dq, osq⟩, hw''⟩ := hw'
  subst hw''
  clear A0 A1 A2 A3 A4 A5 A6 A7 A8 A9
  obtain ⟨V, hV, h4⟩ : ∃ V, V = _ ∧ Below W.heap.size W V := ⟨_, rfl, below_regrown W dq osq⟩
  rw [← hV]
  clear hV
  obtain ⟨a0, a1, a2, a3, a4, a5, a6, a7, a8, a9⟩ := cells10 (RA.out V h4)
  go_wp2_with fail
  go_ret
  exact ⟨rfl, below_step N3.out h4⟩

set_option maxRecDepth 100000 in
set_option maxHeartbeats 2000000 in
theorem right_5a (k rk p to pl : Int) (i v : ByteArray) (t n m cap : Nat) (oa : Option Addr) (w : World) (o : Value) (k0 : (k == 0) = false) (k2 : (k == 2) = false) (k4 : (k == 4) = false) (k5 : (k == 5) = true) (l1 : decide ((m : Int) ≤ 255) = false)
    (HO : Hid (∀ W, Calls Try.prog 33 #[.agg #[.int .i64 k, .int .i64 rk, .string i, .string v, .float .f64 t, .int .i64 p, .int .u64 n, .slice oa m cap, .int .i64 to, .int .i64 pl]] W fun e w' => e = .returned o ∧ Below W.heap.size W w'))
    (HS : Hid (∀ W, Below w.heap.size w W → Calls Try.prog 19 #[.agg #[.int .i64 k, .int .i64 rk, .string i, .string v, .float .f64 t, .int .i64 p, .int .u64 n, .slice oa m cap, .int .i64 to, .int .i64 pl], o] W fun e w' => e = .returned (.bool true) ∧ Below W.heap.size W w')) :
    Calls Try.prog 16 #[.agg #[.int .i64 k, .int .i64 rk, .string i, .string v, .float .f64 t, .int .i64 p, .int .u64 n, .slice oa m cap, .int .i64 to, .int .i64 pl]] w fun e w' => e = .returned (.bool false) ∧ Below w.heap.size w w' := by
  have n1 := heap_alloc_new w (.cells #[.int .i64 k, .int .i64 rk, .string i, .string v, .float .f64 t, .int .i64 p, .int .u64 n, .slice oa m cap, .int .i64 to, .int .i64 pl] 29)
  have n3 := (Below.refl w.heap.size w).alloc (Nat.le_refl _) (.cells #[.int .i64 k, .int .i64 rk, .string i, .string v, .float .f64 t, .int .i64 p, .int .u64 n, .slice oa m cap, .int .i64 to, .int .i64 pl] 29)
  obtain ⟨W, hW⟩ : ∃ W, W = w.alloc (.cells #[.int .i64 k, .int .i64 rk, .string i, .string v, .float .f64 t, .int .i64 p, .int .u64 n, .slice oa m cap, .int .i64 to, .int .i64 pl] 29) := ⟨_, rfl⟩
  rw [← hW] at n1 n3
  have HW := Lib.hid hW
  have RA : Hid (∀ V, Below W.heap.size W V → V.heap[w.heap.size]? = some (.cells #[.int .i64 k, .int .i64 rk, .string i, .string v, .float .f64 t, .int .i64 p, .int .u64 n, .slice oa m cap, .int .i64 to, .int .i64 pl] 29 (0, 0))) := Lib.hid (fun V h => (h.block _ (lt_of_rowS n1)).trans n1)
  have N3 := Lib.hid n3
  obtain ⟨a0, a1, a2, a3, a4, a5, a6, a7, a8, a9⟩ := cells10 n1
  have A0 := cell_regrown a0
  have A1 := cell_regrown a1
  have A2 := cell_regrown a2
  have A3 := cell_regrown a3
  have A4 := cell_regrown a4
  have A5 := cell_regrown a5
  have A6 := cell_regrown a6
  have A7 := cell_regrown a7
  have A8 := cell_regrown a8
  have A9 := cell_regrown a9
  clear n1 n3 hW a0 a1 a2 a3 a4 a5 a6 a7 a8 a9
  go_enter Try.func16, Try.ntmps16
  go_wp2_with fail
  rw [← HW.out]
  refine Loose.wp_region_quiet_fast (by kernel_rfl) (by kernel_rfl) ?_
  (try simp only [List.append_eq, List.cons_append, List.nil_append])
  repeat (go_big_quiet_step (fail))
  go_big_quiet_step ((go_at_call 33; exact Calls.regrown_of (HO.out _)))
  repeat (go_big_quiet_step (fail))
  go_big_quiet_step ((go_at_call 19; exact Calls.regrown_of (HS.out _ (below_step N3.out (below_regrown _ _ _)))))
  repeat (go_big_quiet_step (fail))
  refine wpQuiet_nil ?_
  intro _ hw'
  obtain ⟨⟨dq, osq⟩, hw''⟩ := hw'
  subst hw''
  clear A0 A1 A2 A3 A4 A5 A6 A7 A8 A9
  obtain ⟨V, hV, h4⟩ : ∃ V, V = _ ∧ Below W.heap.size W V := ⟨_, rfl, below_regrown W dq osq⟩
  rw [← hV]
  clear hV
  obtain ⟨a0, a1, a2, a3, a4, a5, a6, a7, a8, a9⟩ := cells10 (RA.out V h4)
  go_wp2_with fail
  go_ret
  exact ⟨rfl, below_step N3.out h4⟩

set_option maxRecDepth 100000 in
set_option maxHeartbeats 2000000 in
theorem right_5b (k rk p to pl : Int) (i v : ByteArray) (t n m cap : Nat) (oa : Option Addr) (w : World) (o : Value) (k0 : (k == 0) = false) (k2 : (k == 2) = false) (k4 : (k == 4) = false) (k5 : (k == 5) = true) (l1 : decide ((m : Int) ≤ 255) = true) (H1 : (Hid (∀ W, Calls Try.prog 34 #[.int .i64 to, .int .i64 65535] W fun e w' => e = .returned (.bool false) ∧ Below W.heap.size W w')))
    (HO : Hid (∀ W, Calls Try.prog 33 #[.agg #[.int .i64 k, .int .i64 rk, .string i, .string v, .float .f64 t, .int .i64 p, .int .u64 n, .slice oa m cap, .int .i64 to, .int .i64 pl]] W fun e w' => e = .returned o ∧ Below W.heap.size W w'))
    (HS : Hid (∀ W, Below w.heap.size w W → Calls Try.prog 19 #[.agg #[.int .i64 k, .int .i64 rk, .string i, .string v, .float .f64 t, .int .i64 p, .int .u64 n, .slice oa m cap, .int .i64 to, .int .i64 pl], o] W fun e w' => e = .returned (.bool true) ∧ Below W.heap.size W w')) :
    Calls Try.prog 16 #[.agg #[.int .i64 k, .int .i64 rk, .string i, .string v, .float .f64 t, .int .i64 p, .int .u64 n, .slice oa m cap, .int .i64 to, .int .i64 pl]] w fun e w' => e = .returned (.bool false) ∧ Below w.heap.size w w' := by
  have n1 := heap_alloc_new w (.cells #[.int .i64 k, .int .i64 rk, .string i, .string v, .float .f64 t, .int .i64 p, .int .u64 n, .slice oa m cap, .int .i64 to, .int .i64 pl] 29)
  have n3 := (Below.refl w.heap.size w).alloc (Nat.le_refl _) (.cells #[.int .i64 k, .int .i64 rk, .string i, .string v, .float .f64 t, .int .i64 p, .int .u64 n, .slice oa m cap, .int .i64 to, .int .i64 pl] 29)
  obtain ⟨W, hW⟩ : ∃ W, W = w.alloc (.cells #[.int .i64 k, .int .i64 rk, .string i, .string v, .float .f64 t, .int .i64 p, .int .u64 n, .slice oa m cap, .int .i64 to, .int .i64 pl] 29) := ⟨_, rfl⟩
  rw [← hW] at n1 n3
  have HW := Lib.hid hW
  have RA : Hid (∀ V, Below W.heap.size W V → V.heap[w.heap.size]? = some (.cells #[.int .i64 k, .int .i64 rk, .string i, .string v, .float .f64 t, .int .i64 p, .int .u64 n, .slice oa m cap, .int .i64 to, .int .i64 pl] 29 (0, 0))) := Lib.hid (fun V h => (h.block _ (lt_of_rowS n1)).trans n1)
  have N3 := Lib.hid n3
  obtain ⟨a0, a1, a2, a3, a4, a5, a6, a7, a8, a9⟩ := cells10 n1
  have A0 := cell_regrown a0
  have A1 := cell_regrown a1
  have A2 := cell_regrown a2
  have A3 := cell_regrown a3
  have A4 := cell_regrown a4
  have A5 := cell_regrown a5
  have A6 := cell_regrown a6
  have A7 := cell_regrown a7
  have A8 := cell_regrown a8
  have A9 := cell_regrown a9
  clear n1 n3 hW a0 a1 a2 a3 a4 a5 a6 a7 a8 a9
  go_enter Try.func16, Try.ntmps16
  go_wp2_with fail
  rw [← HW.out]
  refine Loose.wp_region_quiet_fast (by kernel_rfl) (by kernel_rfl) ?_
  (try simp only [List.append_eq, List.cons_append, List.nil_append])
  repeat (go_big_quiet_step (fail))
  go_big_quiet_step ((go_at_call 33; exact Calls.regrown_of (HO.out _)))
  repeat (go_big_quiet_step (fail))
  go_big_quiet_step ((go_at_call 19; exact Calls.regrown_of (HS.out _ (below_step N3.out (below_regrown _ _ _)))))
  repeat (go_big_quiet_step (fail))
  refine wpQuiet_nil ?_
  intro _ hw'
  obtain ⟨⟨dq, osq⟩, hw''⟩ := hw'
  subst hw''
  clear A0 A1 A2 A3 A4 A5 A6 A7 A8 A9
  obtain ⟨V, hV, h4⟩ : ∃ V, V = _ ∧ Below W.heap.size W V := ⟨_, rfl, below_regrown W dq osq⟩
  rw [← hV]
  clear hV
  obtain ⟨a0, a1, a2, a3, a4, a5, a6, a7, a8, a9⟩ := cells10 (RA.out V h4)
  go_wp2_with fail
  clear a0 a1 a2 a3 a4 a5 a6 a7 a8 a9
  refine (H1.out _).mono ?_; rintro e w0 ⟨rfl, hb⟩
  have g0 := below_step h4 hb
  clear hb h4
  obtain ⟨a0, a1, a2, a3, a4, a5, a6, a7, a8, a9⟩ := cells10 (RA.out _ g0)
  go_wp2_with fail
  go_ret
  exact ⟨rfl, below_step N3.out g0⟩

set_option maxRecDepth 100000 in
set_option maxHeartbeats 2000000 in
theorem right_5c (k rk p to pl : Int) (i v : ByteArray) (t n m cap : Nat) (oa : Option Addr) (w : World) (o : Value) (k0 : (k == 0) = false) (k2 : (k == 2) = false) (k4 : (k == 4) = false) (k5 : (k == 5) = true) (l1 : decide ((m : Int) ≤ 255) = true) (H1 : (Hid (∀ W, Calls Try.prog 34 #[.int .i64 to, .int .i64 65535] W fun e w' => e = .returned (.bool true) ∧ Below W.heap.size W w'))) (z : Bool) (H2 : (Hid (∀ W, Calls Try.prog 34 #[.int .i64 pl, .int .i64 128] W fun e w' => e = .returned (.bool z) ∧ Below W.heap.size W w')))
    (HO : Hid (∀ W, Calls Try.prog 33 #[.agg #[.int .i64 k, .int .i64 rk, .string i, .string v, .float .f64 t, .int .i64 p, .int .u64 n, .slice oa m cap, .int .i64 to, .int .i64 pl]] W fun e w' => e = .returned o ∧ Below W.heap.size W w'))
    (HS : Hid (∀ W, Below w.heap.size w W → Calls Try.prog 19 #[.agg #[.int .i64 k, .int .i64 rk, .string i, .string v, .float .f64 t, .int .i64 p, .int .u64 n, .slice oa m cap, .int .i64 to, .int .i64 pl], o] W fun e w' => e = .returned (.bool true) ∧ Below W.heap.size W w')) :
    Calls Try.prog 16 #[.agg #[.int .i64 k, .int .i64 rk, .string i, .string v, .float .f64 t, .int .i64 p, .int .u64 n, .slice oa m cap, .int .i64 to, .int .i64 pl]] w fun e w' => e = .returned (.bool z) ∧ Below w.heap.size w w' := by
  have n1 := heap_alloc_new w (.cells #[.int .i64 k, .int .i64 rk, .string i, .string v, .float .f64 t, .int .i64 p, .int .u64 n, .slice oa m cap, .int .i64 to, .int .i64 pl] 29)
  have n3 := (Below.refl w.heap.size w).alloc (Nat.le_refl _) (.cells #[.int .i64 k, .int .i64 rk, .string i, .string v, .float .f64 t, .int .i64 p, .int .u64 n, .slice oa m cap, .int .i64 to, .int .i64 pl] 29)
  obtain ⟨W, hW⟩ : ∃ W, W = w.alloc (.cells #[.int .i64 k, .int .i64 rk, .string i, .string v, .float .f64 t, .int .i64 p, .int .u64 n, .slice oa m cap, .int .i64 to, .int .i64 pl] 29) := ⟨_, rfl⟩
  rw [← hW] at n1 n3
  have HW := Lib.hid hW
  have RA : Hid (∀ V, Below W.heap.size W V → V.heap[w.heap.size]? = some (.cells #[.int .i64 k, .int .i64 rk, .string i, .string v, .float .f64 t, .int .i64 p, .int .u64 n, .slice oa m cap, .int .i64 to, .int .i64 pl] 29 (0, 0))) := Lib.hid (fun V h => (h.block _ (lt_of_rowS n1)).trans n1)
  have N3 := Lib.hid n3
  obtain ⟨a0, a1, a2, a3, a4, a5, a6, a7, a8, a9⟩ := cells10 n1
  have A0 := cell_regrown a0
  have A1 := cell_regrown a1
  have A2 := cell_regrown a2
  have A3 := cell_regrown a3
  have A4 := cell_regrown a4
  have A5 := cell_regrown a5
  have A6 := cell_regrown a6
  have A7 := cell_regrown a7
  have A8 := cell_regrown a8
  have A9 := cell_regrown a9
  clear n1 n3 hW a0 a1 a2 a3 a4 a5 a6 a7 a8 a9
  go_enter Try.func16, Try.ntmps16
  go_wp2_with fail
  rw [← HW.out]
  refine Loose.wp_region_quiet_fast (by kernel_rfl) (by kernel_rfl) ?_
  (try simp only [List.append_eq, List.cons_append, List.nil_append])
  repeat (go_big_quiet_step (fail))
  go_big_quiet_step ((go_at_call 33; exact Calls.regrown_of (HO.out _)))
  repeat (go_big_quiet_step (fail))
  go_big_quiet_step ((go_at_call 19; exact Calls.regrown_of (HS.out _ (below_step N3.out (below_regrown _ _ _)))))
  repeat (go_big_quiet_step (fail))
  refine wpQuiet_nil ?_
  intro _ hw'
  obtain ⟨⟨dq, osq⟩, hw''⟩ := hw'
  subst hw''
  clear A0 A1 A2 A3 A4 A5 A6 A7 A8 A9
  obtain ⟨V, hV, h4⟩ : ∃ V, V = _ ∧ Below W.heap.size W V := ⟨_, rfl, below_regrown W dq osq⟩
  rw [← hV]
  clear hV
  obtain ⟨a0, a1, a2, a3, a4, a5, a6, a7, a8, a9⟩ := cells10 (RA.out V h4)
  go_wp2_with fail
  clear a0 a1 a2 a3 a4 a5 a6 a7 a8 a9
  refine (H1.out _).mono ?_; rintro e w0 ⟨rfl, hb⟩
  have g0 := below_step h4 hb
  clear hb h4
  obtain ⟨a0, a1, a2, a3, a4, a5, a6, a7, a8, a9⟩ := cells10 (RA.out _ g0)
  go_wp2_with fail
  clear a0 a1 a2 a3 a4 a5 a6 a7 a8 a9
  refine (H2.out _).mono ?_; rintro e w1 ⟨rfl, hb⟩
  have g1 := below_step g0 hb
  clear hb g0
  obtain ⟨a0, a1, a2, a3, a4, a5, a6, a7, a8, a9⟩ := cells10 (RA.out _ g1)
  go_wp2_with fail
  go_ret
  exact ⟨rfl, below_step N3.out g1⟩

set_option maxRecDepth 100000 in
set_option maxHeartbeats 2000000 in
theorem right_1 (k rk p to pl : Int) (i v : ByteArray) (t n m cap : Nat) (oa : Option Addr) (w : World) (o : Value) (k0 : (k == 0) = false) (k2 : (k == 2) = false) (k4 : (k == 4) = false) (k5 : (k == 5) = false) (k1 : (k == 1) = true)
    (HO : Hid (∀ W, Calls Try.prog 33 #[.agg #[.int .i64 k, .int .i64 rk, .string i, .string v, .float .f64 t, .int .i64 p, .int .u64 n, .slice oa m cap, .int .i64 to, .int .i64 pl]] W fun e w' => e = .returned o ∧ Below W.heap.size W w'))
    (HS : Hid (∀ W, Below w.heap.size w W → Calls Try.prog 19 #[.agg #[.int .i64 k, .int .i64 rk, .string i, .string v, .float .f64 t, .int .i64 p, .int .u64 n, .slice oa m cap, .int .i64 to, .int .i64 pl], o] W fun e w' => e = .returned (.bool true) ∧ Below W.heap.size W w')) :
    Calls Try.prog 16 #[.agg #[.int .i64 k, .int .i64 rk, .string i, .string v, .float .f64 t, .int .i64 p, .int .u64 n, .slice oa m cap, .int .i64 to, .int .i64 pl]] w fun e w' => e = .returned (.bool true) ∧ Below w.heap.size w w' := by
  have n1 := heap_alloc_new w (.cells #[.int .i64 k, .int .i64 rk, .string i, .string v, .float .f64 t, .int .i64 p, .int .u64 n, .slice oa m cap, .int .i64 to, .int .i64 pl] 29)
  have n3 := (Below.refl w.heap.size w).alloc (Nat.le_refl _) (.cells #[.int .i64 k, .int .i64 rk, .string i, .string v, .float .f64 t, .int .i64 p, .int .u64 n, .slice oa m cap, .int .i64 to, .int .i64 pl] 29)
  obtain ⟨W, hW⟩ : ∃ W, W = w.alloc (.cells #[.int .i64 k, .int .i64 rk, .string i, .string v, .float .f64 t, .int .i64 p, .int .u64 n, .slice oa m cap, .int .i64 to, .int .i64 pl] 29) := ⟨_, rfl⟩
  rw [← hW] at n1 n3
  have HW := Lib.hid hW
  have RA : Hid (∀ V, Below W.heap.size W V → V.heap[w.heap.size]? = some (.cells #[.int .i64 k, .int .i64 rk, .string i, .string v, .float .f64 t, .int .i64 p, .int .u64 n, .slice oa m cap, .int .i64 to, .int .i64 pl] 29 (0, 0))) := Lib.hid (fun V h => (h.block _ (lt_of_rowS n1)).trans n1)
  have N3 := Lib.hid n3
  obtain ⟨a0, a1, a2, a3, a4, a5, a6, a7, a8, a9⟩ := cells10 n1
  have A0 := cell_regrown a0
  have A1 := cell_regrown a1
  have A2 := cell_regrown a2
  have A3 := cell_regrown a3
  have A4 := cell_regrown a4
  have A5 := cell_regrown a5
  have A6 := cell_regrown a6
  have A7 := cell_regrown a7
  have A8 := cell_regrown a8
  have A9 := cell_regrown a9
  clear n1 n3 hW a0 a1 a2 a3 a4 a5 a6 a7 a8 a9
  go_enter Try.func16, Try.ntmps16
  go_wp2_with fail
  rw [← HW.out]
  refine Loose.wp_region_quiet_fast (by kernel_rfl) (by kernel_rfl) ?_
  (try simp only [List.append_eq, List.cons_append, List.nil_append])
  repeat (go_big_quiet_step (fail))
  go_big_quiet_step ((go_at_call 33; exact Calls.regrown_of (HO.out _)))
  repeat (go_big_quiet_step (fail))
  go_big_quiet_step ((go_at_call 19; exact Calls.regrown_of (HS.out _ (below_step N3.out (below_regrown _ _ _)))))
  repeat (go_big_quiet_step (fail))
  refine wpQuiet_nil ?_
  intro _ hw'
  obtain ⟨⟨dq, osq⟩, hw''⟩ := hw'
  subst hw''
  clear A0 A1 A2 A3 A4 A5 A6 A7 A8 A9
  obtain ⟨V, hV, h4⟩ : ∃ V, V = _ ∧ Below W.heap.size W V := ⟨_, rfl, below_regrown W dq osq⟩
  rw [← hV]
  clear hV
  obtain ⟨a0, a1, a2, a3, a4, a5, a6, a7, a8, a9⟩ := cells10 (RA.out V h4)
  go_wp2_with fail
  go_ret
  exact ⟨rfl, below_step N3.out h4⟩

set_option maxRecDepth 100000 in
set_option maxHeartbeats 2000000 in
theorem right_3 (k rk p to pl : Int) (i v : ByteArray) (t n m cap : Nat) (oa : Option Addr) (w : World) (o : Value) (k0 : (k == 0) = false) (k2 : (k == 2) = false) (k4 : (k == 4) = false) (k5 : (k == 5) = false) (k1 : (k == 1) = false) (z : Bool) (k3 : (k == 3) = z)
    (HO : Hid (∀ W, Calls Try.prog 33 #[.agg #[.int .i64 k, .int .i64 rk, .string i, .string v, .float .f64 t, .int .i64 p, .int .u64 n, .slice oa m cap, .int .i64 to, .int .i64 pl]] W fun e w' => e = .returned o ∧ Below W.heap.size W w'))
    (HS : Hid (∀ W, Below w.heap.size w W → Calls Try.prog 19 #[.agg #[.int .i64 k, .int .i64 rk, .string i, .string v, .float .f64 t, .int .i64 p, .int .u64 n, .slice oa m cap, .int .i64 to, .int .i64 pl], o] W fun e w' => e = .returned (.bool true) ∧ Below W.heap.size W w')) :
    Calls Try.prog 16 #[.agg #[.int .i64 k, .int .i64 rk, .string i, .string v, .float .f64 t, .int .i64 p, .int .u64 n, .slice oa m cap, .int .i64 to, .int .i64 pl]] w fun e w' => e = .returned (.bool z) ∧ Below w.heap.size w w' := by
  have n1 := heap_alloc_new w (.cells #[.int .i64 k, .int .i64 rk, .string i, .string v, .float .f64 t, .int .i64 p, .int .u64 n, .slice oa m cap, .int .i64 to, .int .i64 pl] 29)
  have n3 := (Below.refl w.heap.size w).alloc (Nat.le_refl _) (.cells #[.int .i64 k, .int .i64 rk, .string i, .string v, .float .f64 t, .int .i64 p, .int .u64 n, .slice oa m cap, .int .i64 to, .int .i64 pl] 29)
  obtain ⟨W, hW⟩ : ∃ W, W = w.alloc (.cells #[.int .i64 k, .int .i64 rk, .string i, .string v, .float .f64 t, .int .i64 p, .int .u64 n, .slice oa m cap, .int .i64 to, .int .i64 pl] 29) := ⟨_, rfl⟩
  rw [← hW] at n1 n3
  have HW := Lib.hid hW
  have RA : Hid (∀ V, Below W.heap.size W V → V.heap[w.heap.size]? = some (.cells #[.int .i64 k, .int .i64 rk, .string i, .string v, .float .f64 t, .int .i64 p, .int .u64 n, .slice oa m cap, .int .i64 to, .int .i64 pl] 29 (0, 0))) := Lib.hid (fun V h => (h.block _ (lt_of_rowS n1)).trans n1)
  have N3 := Lib.hid n3
  obtain ⟨a0, a1, a2, a3, a4, a5, a6, a7, a8, a9⟩ := cells10 n1
  have A0 := cell_regrown a0
  have A1 := cell_regrown a1
  have A2 := cell_regrown a2
  have A3 := cell_regrown a3
  have A4 := cell_regrown a4
  have A5 := cell_regrown a5
  have A6 := cell_regrown a6
  have A7 := cell_regrown a7
  have A8 := cell_regrown a8
  have A9 := cell_regrown a9
  clear n1 n3 hW a0 a1 a2 a3 a4 a5 a6 a7 a8 a9
  go_enter Try.func16, Try.ntmps16
  go_wp2_with fail
  rw [← HW.out]
  refine Loose.wp_region_quiet_fast (by kernel_rfl) (by kernel_rfl) ?_
  (try simp only [List.append_eq, List.cons_append, List.nil_append])
  repeat (go_big_quiet_step (fail))
  go_big_quiet_step ((go_at_call 33; exact Calls.regrown_of (HO.out _)))
  repeat (go_big_quiet_step (fail))
  go_big_quiet_step ((go_at_call 19; exact Calls.regrown_of (HS.out _ (below_step N3.out (below_regrown _ _ _)))))
  repeat (go_big_quiet_step (fail))
  refine wpQuiet_nil ?_
  intro _ hw'
  obtain ⟨⟨dq, osq⟩, hw''⟩ := hw'
  subst hw''
  clear A0 A1 A2 A3 A4 A5 A6 A7 A8 A9
  obtain ⟨V, hV, h4⟩ : ∃ V, V = _ ∧ Below W.heap.size W V := ⟨_, rfl, below_regrown W dq osq⟩
  rw [← hV]
  clear hV
  obtain ⟨a0, a1, a2, a3, a4, a5, a6, a7, a8, a9⟩ := cells10 (RA.out V h4)
  go_wp2_with fail
  go_ret
  exact ⟨rfl, below_step N3.out h4⟩

theorem Right_val (a : Ac) (va : Value) (w : World) (hl : a.keep.length ≤ 140737488351232) (ha : Sb w va a.keep) :
    Calls Try.prog 16 #[.agg (a.row va)] w fun e w' => e = .returned (.bool (decide a.Right)) ∧ Below w.heap.size w w' := by
  have HS : ∀ W, Below w.heap.size w W → Calls Try.prog 19 #[.agg (a.row va), .agg (a.only.row (a.vk va))] W fun e w' => e = .returned (.bool (decide (a = a.only))) ∧ Below W.heap.size W w' :=
    fun W h => Same_val a a.only va (a.vk va) W hl (ha.below h (Nat.le_refl _)) ((ha.below h (Nat.le_refl _)).only) _ (Lib.hid rfl)
  obtain ⟨oa, cap, rfl⟩ := ha.form
  have HO := Lib.hid (fun W => only_val a oa a.keep.length cap W)
  clear ha hl
  obtain ⟨o, ho⟩ : ∃ o, o = Value.agg (a.only.row (a.vk (.slice oa a.keep.length cap))) := ⟨_, rfl⟩
  rw [← ho] at HO HS
  clear ho
  by_cases hs : a = a.only
  case neg =>
    rw [decide_eq_false hs] at HS
    rw [decide_eq_false (show ¬ a.Right from fun h => hs h.1)]
    exact right_ns a.kind a.rk a.pick a.torn a.pl a.id a.va a.ttl a.n _ cap oa w o HO (Lib.hid HS)
  rw [decide_eq_true hs] at HS
  have hr : decide a.Right = decide a.fits := decide_eq_decide.2 ⟨fun h => h.2, fun h => ⟨hs, h⟩⟩
  rw [hr]
  clear hr hs
  have HS := Lib.hid HS
  obtain ⟨k, rk, i, v, t, p, n, l, to, pl⟩ := a
  obtain ⟨m, hm⟩ : ∃ m, m = l.length := ⟨_, rfl⟩
  unfold Ac.row at HO HS ⊢
  simp only [← hm] at HO HS ⊢
  have W1 := fun x y => Lib.hid (fun W => within_val x y W)
  rcases beqI k 0 with ⟨k0, e0⟩ | ⟨k0, e0⟩
  · have hf : decide (Ac.fits ⟨k, rk, i, v, t, p, n, l, to, pl⟩) = (decide (0 ≤ rk ∧ rk ≤ 255) && (decide ((i.size : Int) ≤ 255) && (decide ((v.size : Int) ≤ 255) && decide (0 ≤ p ∧ p ≤ 255)))) := by
      rw [← Bool.decide_and, ← Bool.decide_and, ← Bool.decide_and]
      apply decide_eq_decide.2
      unfold Ac.fits
      simp only [if_pos e0]
      omega
    rw [hf]
    clear hf hm
    by_cases c1 : 0 ≤ rk ∧ rk ≤ 255
    case neg => rw [decide_eq_false c1]; exact right_0a k rk p to pl i v t n m cap oa w o k0 (by have := W1 rk 255; rw [decide_eq_false c1] at this; exact this) HO HS
    have h1 := W1 rk 255
    rw [decide_eq_true c1] at h1 ⊢
    by_cases c2 : (i.size : Int) ≤ 255
    case neg => rw [decide_eq_false c2]; exact right_0b k rk p to pl i v t n m cap oa w o k0 h1 (decide_eq_false c2) HO HS
    rw [decide_eq_true c2]
    by_cases c3 : (v.size : Int) ≤ 255
    case neg => rw [decide_eq_false c3]; exact right_0c k rk p to pl i v t n m cap oa w o k0 h1 (decide_eq_true c2) (decide_eq_false c3) HO HS
    rw [decide_eq_true c3]
    exact right_0d k rk p to pl i v t n m cap oa w o k0 h1 (decide_eq_true c2) (decide_eq_true c3) _ (W1 p 255) HO HS
  rcases beqI k 2 with ⟨k2, e2⟩ | ⟨k2, e2⟩
  · have hf : decide (Ac.fits ⟨k, rk, i, v, t, p, n, l, to, pl⟩) = decide ((n : Int) ≤ 255) := by
      apply decide_eq_decide.2
      unfold Ac.fits
      simp only [if_neg e0, if_pos e2]
      omega
    rw [hf]
    exact right_2 k rk p to pl i v t n m cap oa w o k0 k2 _ rfl HO HS
  rcases beqI k 4 with ⟨k4, e4⟩ | ⟨k4, e4⟩
  · have hf : decide (Ac.fits ⟨k, rk, i, v, t, p, n, l, to, pl⟩) = decide ((n : Int) ≤ 65535) := by
      apply decide_eq_decide.2
      unfold Ac.fits
      simp only [if_neg e0, if_neg e2, if_pos e4]
      omega
    rw [hf]
    exact right_4 k rk p to pl i v t n m cap oa w o k0 k2 k4 _ rfl HO HS
  rcases beqI k 5 with ⟨k5, e5⟩ | ⟨k5, e5⟩
  · have hf : decide (Ac.fits ⟨k, rk, i, v, t, p, n, l, to, pl⟩) = (decide ((m : Int) ≤ 255) && (decide (0 ≤ to ∧ to ≤ 65535) && decide (0 ≤ pl ∧ pl ≤ 128))) := by
      rw [← Bool.decide_and, ← Bool.decide_and]
      apply decide_eq_decide.2
      unfold Ac.fits
      simp only [if_neg e0, if_neg e2, if_neg e4, if_pos e5]
      omega
    rw [hf]
    clear hf hm
    by_cases c1 : (m : Int) ≤ 255
    case neg => rw [decide_eq_false c1]; exact right_5a k rk p to pl i v t n m cap oa w o k0 k2 k4 k5 (decide_eq_false c1) HO HS
    rw [decide_eq_true c1]
    by_cases c2 : 0 ≤ to ∧ to ≤ 65535
    case neg => rw [decide_eq_false c2]; exact right_5b k rk p to pl i v t n m cap oa w o k0 k2 k4 k5 (decide_eq_true c1) (by have := W1 to 65535; rw [decide_eq_false c2] at this; exact this) HO HS
    have h1 := W1 to 65535
    rw [decide_eq_true c2] at h1 ⊢
    exact right_5c k rk p to pl i v t n m cap oa w o k0 k2 k4 k5 (decide_eq_true c1) h1 _ (W1 pl 128) HO HS
  rcases beqI k 1 with ⟨k1, e1⟩ | ⟨k1, e1⟩
  · have hf : decide (Ac.fits ⟨k, rk, i, v, t, p, n, l, to, pl⟩) = true := by
      apply decide_eq_true
      unfold Ac.fits
      simp only [if_neg e0, if_neg e2, if_neg e4, if_neg e5]
      exact Or.inl e1
    rw [hf]
    exact right_1 k rk p to pl i v t n m cap oa w o k0 k2 k4 k5 k1 HO HS
  · have hf : decide (Ac.fits ⟨k, rk, i, v, t, p, n, l, to, pl⟩) = (k == 3) := by
      rw [Bool.beq_eq_decide_eq]
      apply decide_eq_decide.2
      unfold Ac.fits
      simp only [if_neg e0, if_neg e2, if_neg e4, if_neg e5]
      omega
    rw [hf]
    exact right_3 k rk p to pl i v t n m cap oa w o k0 k2 k4 k5 k1 _ rfl HO HS
end Go.Proofs.Ytjkiofgllmjkcaa.G
