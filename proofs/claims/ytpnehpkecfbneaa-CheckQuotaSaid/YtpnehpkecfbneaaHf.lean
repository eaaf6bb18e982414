/- Package check: whether a conf may be; how many sectors; its quota, its bound. -/
import Derived.Test.YtpnehpkecfbneaaHk
import Derived.Test.YtpnehpkecfbneaaHc
import Derived.Test.YtpnehpkecfbneaaGFast
import Derived.BigQuiet
namespace Go.Proofs.Ytpnehpkecfbneaa.G
open Go.RowKit
set_option linter.unusedVariables false
set_option linter.unusedSimpArgs false

set_option maxRecDepth 100000 in
theorem of_2 (s n r : Int) (x : Nat) (w : World) : Calls Try.prog 23 #[.agg #[.int .i64 s, .int .i64 n, .float .f64 x, .int .i64 r]] w fun e w' => e = .returned (.int .i64 s) ∧ Below w.heap.size w w' := by
  go_enter Try.func23, Try.ntmps23
  go_wp2_with fail
  go_ret
  exact ⟨rfl, (Below.refl _ _).alloc (Nat.le_refl _) _⟩

set_option maxRecDepth 100000 in
theorem of_3 (s n r : Int) (x : Nat) (w : World) : Calls Try.prog 24 #[.agg #[.int .i64 s, .int .i64 n, .float .f64 x, .int .i64 r]] w fun e w' => e = .returned (.int .i64 n) ∧ Below w.heap.size w w' := by
  go_enter Try.func24, Try.ntmps24
  go_wp2_with fail
  go_ret
  exact ⟨rfl, (Below.refl _ _).alloc (Nat.le_refl _) _⟩

set_option maxRecDepth 100000 in
theorem of_4 (s n r : Int) (x : Nat) (w : World) : Calls Try.prog 25 #[.agg #[.int .i64 s, .int .i64 n, .float .f64 x, .int .i64 r]] w fun e w' => e = .returned (.int .i64 r) ∧ Below w.heap.size w w' := by
  go_enter Try.func25, Try.ntmps25
  go_wp2_with fail
  go_ret
  exact ⟨rfl, (Below.refl _ _).alloc (Nat.le_refl _) _⟩

set_option maxRecDepth 100000 in
theorem wrong_2_low (s n r lo hi : Int) (x : Nat) (A : Nat) (w : World) (hA : w.heap[A]? = some (.cells #[.int .i64 s, .int .i64 n, .float .f64 x, .int .i64 r] 24 (0, 0))) (h : s < lo) :
    Calls Try.prog 22 #[.agg #[.func (.func 23) #[] #[], .int .i64 lo, .int .i64 hi], .pointer (some ⟨A, 0, none⟩)] w fun e w' => e = .returned (.bool true) ∧ Below w.heap.size w w' := by
  have q1 : decide (s < lo) = true := decide_eq_true h
  obtain ⟨W, hW⟩ : ∃ W, W = w.alloc (.cells #[.func (.func 23) #[] #[], .int .i64 lo, .int .i64 hi] 36) := ⟨_, rfl⟩
  have hb : Below w.heap.size w W := by rw [hW]; exact (Below.refl _ _).alloc (Nat.le_refl _) _
  have hn : W.heap[w.heap.size]? = some (.cells #[.func (.func 23) #[] #[], .int .i64 lo, .int .i64 hi] 36 (0, 0)) := by rw [hW]; exact heap_alloc_new _ _
  have hA2 : W.heap[A]? = some (.cells #[.int .i64 s, .int .i64 n, .float .f64 x, .int .i64 r] 24 (0, 0)) := (hb.block A (by rcases Nat.lt_or_ge A w.heap.size with h | h; exact h; rw [Array.getElem?_eq_none h] at hA; cases hA)).trans hA
  have b0 := cell_regrown ((cell_of_row _ _ 0 _ _ _ hn).trans (show _ = some (Value.func (.func 23) #[] #[]) from rfl))
  have b1 := cell_regrown ((cell_of_row _ _ 1 _ _ _ hn).trans (show _ = some (Value.int .i64 lo) from rfl))
  have b2 := cell_regrown ((cell_of_row _ _ 2 _ _ _ hn).trans (show _ = some (Value.int .i64 hi) from rfl))
  have c0 := cell_regrown ((cell_of_row _ _ 0 _ _ _ hA2).trans (show _ = some (Value.int .i64 s) from rfl))
  have c1 := cell_regrown ((cell_of_row _ _ 1 _ _ _ hA2).trans (show _ = some (Value.int .i64 n) from rfl))
  have c2 := cell_regrown ((cell_of_row _ _ 2 _ _ _ hA2).trans (show _ = some (Value.float .f64 x) from rfl))
  have c3 := cell_regrown ((cell_of_row _ _ 3 _ _ _ hA2).trans (show _ = some (Value.int .i64 r) from rfl))
  have HW := Lib.hid hW
  have HB := Lib.hid hb
  clear hW hb hn hA2 hA
  go_enter Try.func22, Try.ntmps22
  go_wp2_with fail
  rw [← HW.out]
  refine Loose.wp_region_quiet_fast (by kernel_rfl) (by kernel_rfl) ?_
  (try simp only [List.append_eq, List.cons_append, List.nil_append])
  repeat (go_big_quiet_step (fail))
  go_big_quiet_step ((go_at_call 23; exact Calls.regrown_of (of_2 s n r x _)))
  repeat (go_big_quiet_step (fail))
  refine wpQuiet_nil ?_
  intro _ hw'
  obtain ⟨⟨dq, osq⟩, hw''⟩ := hw'
  subst hw''
  go_wp2_with fail
  go_ret
  exact ⟨rfl, below_step HB.out (below_regrown _ dq osq)⟩

set_option maxRecDepth 100000 in
theorem wrong_2_high (s n r lo hi : Int) (x : Nat) (A : Nat) (w : World) (hA : w.heap[A]? = some (.cells #[.int .i64 s, .int .i64 n, .float .f64 x, .int .i64 r] 24 (0, 0))) (h1 : ¬ s < lo) (h : hi < s) :
    Calls Try.prog 22 #[.agg #[.func (.func 23) #[] #[], .int .i64 lo, .int .i64 hi], .pointer (some ⟨A, 0, none⟩)] w fun e w' => e = .returned (.bool true) ∧ Below w.heap.size w w' := by
  have q1 : decide (s < lo) = false := decide_eq_false h1
  have q2 : decide (hi < s) = true := decide_eq_true h
  obtain ⟨W, hW⟩ : ∃ W, W = w.alloc (.cells #[.func (.func 23) #[] #[], .int .i64 lo, .int .i64 hi] 36) := ⟨_, rfl⟩
  have hb : Below w.heap.size w W := by rw [hW]; exact (Below.refl _ _).alloc (Nat.le_refl _) _
  have hn : W.heap[w.heap.size]? = some (.cells #[.func (.func 23) #[] #[], .int .i64 lo, .int .i64 hi] 36 (0, 0)) := by rw [hW]; exact heap_alloc_new _ _
  have hA2 : W.heap[A]? = some (.cells #[.int .i64 s, .int .i64 n, .float .f64 x, .int .i64 r] 24 (0, 0)) := (hb.block A (by rcases Nat.lt_or_ge A w.heap.size with h | h; exact h; rw [Array.getElem?_eq_none h] at hA; cases hA)).trans hA
  have b0 := cell_regrown ((cell_of_row _ _ 0 _ _ _ hn).trans (show _ = some (Value.func (.func 23) #[] #[]) from rfl))
  have b1 := cell_regrown ((cell_of_row _ _ 1 _ _ _ hn).trans (show _ = some (Value.int .i64 lo) from rfl))
  have b2 := cell_regrown ((cell_of_row _ _ 2 _ _ _ hn).trans (show _ = some (Value.int .i64 hi) from rfl))
  have c0 := cell_regrown ((cell_of_row _ _ 0 _ _ _ hA2).trans (show _ = some (Value.int .i64 s) from rfl))
  have c1 := cell_regrown ((cell_of_row _ _ 1 _ _ _ hA2).trans (show _ = some (Value.int .i64 n) from rfl))
  have c2 := cell_regrown ((cell_of_row _ _ 2 _ _ _ hA2).trans (show _ = some (Value.float .f64 x) from rfl))
  have c3 := cell_regrown ((cell_of_row _ _ 3 _ _ _ hA2).trans (show _ = some (Value.int .i64 r) from rfl))
  have HW := Lib.hid hW
  have HB := Lib.hid hb
  clear hW hb hn hA2 hA
  go_enter Try.func22, Try.ntmps22
  go_wp2_with fail
  rw [← HW.out]
  refine Loose.wp_region_quiet_fast (by kernel_rfl) (by kernel_rfl) ?_
  (try simp only [List.append_eq, List.cons_append, List.nil_append])
  repeat (go_big_quiet_step (fail))
  go_big_quiet_step ((go_at_call 23; exact Calls.regrown_of (of_2 s n r x _)))
  repeat (go_big_quiet_step (fail))
  go_big_quiet_step ((go_at_call 23; exact Calls.regrown_of (of_2 s n r x _)))
  repeat (go_big_quiet_step (fail))
  refine wpQuiet_nil ?_
  intro _ hw'
  obtain ⟨⟨dq, osq⟩, hw''⟩ := hw'
  subst hw''
  go_wp2_with fail
  go_ret
  exact ⟨rfl, below_step HB.out (below_regrown _ dq osq)⟩

set_option maxRecDepth 100000 in
theorem wrong_2_ok (s n r lo hi : Int) (x : Nat) (A : Nat) (w : World) (hA : w.heap[A]? = some (.cells #[.int .i64 s, .int .i64 n, .float .f64 x, .int .i64 r] 24 (0, 0))) (h1 : ¬ s < lo) (h : ¬ hi < s) :
    Calls Try.prog 22 #[.agg #[.func (.func 23) #[] #[], .int .i64 lo, .int .i64 hi], .pointer (some ⟨A, 0, none⟩)] w fun e w' => e = .returned (.bool false) ∧ Below w.heap.size w w' := by
  have q1 : decide (s < lo) = false := decide_eq_false h1
  have q2 : decide (hi < s) = false := decide_eq_false h
  obtain ⟨W, hW⟩ : ∃ W, W = w.alloc (.cells #[.func (.func 23) #[] #[], .int .i64 lo, .int .i64 hi] 36) := ⟨_, rfl⟩
  have hb : Below w.heap.size w W := by rw [hW]; exact (Below.refl _ _).alloc (Nat.le_refl _) _
  have hn : W.heap[w.heap.size]? = some (.cells #[.func (.func 23) #[] #[], .int .i64 lo, .int .i64 hi] 36 (0, 0)) := by rw [hW]; exact heap_alloc_new _ _
  have hA2 : W.heap[A]? = some (.cells #[.int .i64 s, .int .i64 n, .float .f64 x, .int .i64 r] 24 (0, 0)) := (hb.block A (by rcases Nat.lt_or_ge A w.heap.size with h | h; exact h; rw [Array.getElem?_eq_none h] at hA; cases hA)).trans hA
  have b0 := cell_regrown ((cell_of_row _ _ 0 _ _ _ hn).trans (show _ = some (Value.func (.func 23) #[] #[]) from rfl))
  have b1 := cell_regrown ((cell_of_row _ _ 1 _ _ _ hn).trans (show _ = some (Value.int .i64 lo) from rfl))
  have b2 := cell_regrown ((cell_of_row _ _ 2 _ _ _ hn).trans (show _ = some (Value.int .i64 hi) from rfl))
  have c0 := cell_regrown ((cell_of_row _ _ 0 _ _ _ hA2).trans (show _ = some (Value.int .i64 s) from rfl))
  have c1 := cell_regrown ((cell_of_row _ _ 1 _ _ _ hA2).trans (show _ = some (Value.int .i64 n) from rfl))
  have c2 := cell_regrown ((cell_of_row _ _ 2 _ _ _ hA2).trans (show _ = some (Value.float .f64 x) from rfl))
  have c3 := cell_regrown ((cell_of_row _ _ 3 _ _ _ hA2).trans (show _ = some (Value.int .i64 r) from rfl))
  have HW := Lib.hid hW
  have HB := Lib.hid hb
  clear hW hb hn hA2 hA
  go_enter Try.func22, Try.ntmps22
  go_wp2_with fail
  rw [← HW.out]
  refine Loose.wp_region_quiet_fast (by kernel_rfl) (by kernel_rfl) ?_
  (try simp only [List.append_eq, List.cons_append, List.nil_append])
  repeat (go_big_quiet_step (fail))
  go_big_quiet_step ((go_at_call 23; exact Calls.regrown_of (of_2 s n r x _)))
  repeat (go_big_quiet_step (fail))
  go_big_quiet_step ((go_at_call 23; exact Calls.regrown_of (of_2 s n r x _)))
  repeat (go_big_quiet_step (fail))
  refine wpQuiet_nil ?_
  intro _ hw'
  obtain ⟨⟨dq, osq⟩, hw''⟩ := hw'
  subst hw''
  go_wp2_with fail
  go_ret
  exact ⟨rfl, below_step HB.out (below_regrown _ dq osq)⟩

set_option maxRecDepth 100000 in
theorem wrong_3_low (s n r lo hi : Int) (x : Nat) (A : Nat) (w : World) (hA : w.heap[A]? = some (.cells #[.int .i64 s, .int .i64 n, .float .f64 x, .int .i64 r] 24 (0, 0))) (h : n < lo) :
    Calls Try.prog 22 #[.agg #[.func (.func 24) #[] #[], .int .i64 lo, .int .i64 hi], .pointer (some ⟨A, 0, none⟩)] w fun e w' => e = .returned (.bool true) ∧ Below w.heap.size w w' := by
  have q1 : decide (n < lo) = true := decide_eq_true h
  obtain ⟨W, hW⟩ : ∃ W, W = w.alloc (.cells #[.func (.func 24) #[] #[], .int .i64 lo, .int .i64 hi] 36) := ⟨_, rfl⟩
  have hb : Below w.heap.size w W := by rw [hW]; exact (Below.refl _ _).alloc (Nat.le_refl _) _
  have hn : W.heap[w.heap.size]? = some (.cells #[.func (.func 24) #[] #[], .int .i64 lo, .int .i64 hi] 36 (0, 0)) := by rw [hW]; exact heap_alloc_new _ _
  have hA2 : W.heap[A]? = some (.cells #[.int .i64 s, .int .i64 n, .float .f64 x, .int .i64 r] 24 (0, 0)) := (hb.block A (by rcases Nat.lt_or_ge A w.heap.size with h | h; exact h; rw [Array.getElem?_eq_none h] at hA; cases hA)).trans hA
  have b0 := cell_regrown ((cell_of_row _ _ 0 _ _ _ hn).trans (show _ = some (Value.func (.func 24) #[] #[]) from rfl))
  have b1 := cell_regrown ((cell_of_row _ _ 1 _ _ _ hn).trans (show _ = some (Value.int .i64 lo) from rfl))
  have b2 := cell_regrown ((cell_of_row _ _ 2 _ _ _ hn).trans (show _ = some (Value.int .i64 hi) from rfl))
  have c0 := cell_regrown ((cell_of_row _ _ 0 _ _ _ hA2).trans (show _ = some (Value.int .i64 s) from rfl))
  have c1 := cell_regrown ((cell_of_row _ _ 1 _ _ _ hA2).trans (show _ = some (Value.int .i64 n) from rfl))
  have c2 := cell_regrown ((cell_of_row _ _ 2 _ _ _ hA2).trans (show _ = some (Value.float .f64 x) from rfl))
  have c3 := cell_regrown ((cell_of_row _ _ 3 _ _ _ hA2).trans (show _ = some (Value.int .i64 r) from rfl))
  have HW := Lib.hid hW
  have HB := Lib.hid hb
  clear hW hb hn hA2 hA
  go_enter Try.func22, Try.ntmps22
  go_wp2_with fail
  rw [← HW.out]
  refine Loose.wp_region_quiet_fast (by kernel_rfl) (by kernel_rfl) ?_
  (try simp only [List.append_eq, List.cons_append, List.nil_append])
  repeat (go_big_quiet_step (fail))
  go_big_quiet_step ((go_at_call 24; exact Calls.regrown_of (of_3 s n r x _)))
  repeat (go_big_quiet_step (fail))
  refine wpQuiet_nil ?_
  intro _ hw'
  obtain ⟨⟨dq, osq⟩, hw''⟩ := hw'
  subst hw''
  go_wp2_with fail
  go_ret
  exact ⟨rfl, below_step HB.out (below_regrown _ dq osq)⟩

set_option maxRecDepth 100000 in
theorem wrong_3_high (s n r lo hi : Int) (x : Nat) (A : Nat) (w : World) (hA : w.heap[A]? = some (.cells #[.int .i64 s, .int .i64 n, .float .f64 x, .int .i64 r] 24 (0, 0))) (h1 : ¬ n < lo) (h : hi < n) :
    Calls Try.prog 22 #[.agg #[.func (.func 24) #[] #[], .int .i64 lo, .int .i64 hi], .pointer (some ⟨A, 0, none⟩)] w fun e w' => e = .returned (.bool true) ∧ Below w.heap.size w w' := by
  have q1 : decide (n < lo) = false := decide_eq_false h1
  have q2 : decide (hi < n) = true := decide_eq_true h
  obtain ⟨W, hW⟩ : ∃ W, W = w.alloc (.cells #[.func (.func 24) #[] #[], .int .i64 lo, .int .i64 hi] 36) := ⟨_, rfl⟩
  have hb : Below w.heap.size w W := by rw [hW]; exact (Below.refl _ _).alloc (Nat.le_refl _) _
  have hn : W.heap[w.heap.size]? = some (.cells #[.func (.func 24) #[] #[], .int .i64 lo, .int .i64 hi] 36 (0, 0)) := by rw [hW]; exact heap_alloc_new _ _
  have hA2 : W.heap[A]? = some (.cells #[.int .i64 s, .int .i64 n, .float .f64 x, .int .i64 r] 24 (0, 0)) := (hb.block A (by rcases Nat.lt_or_ge A w.heap.size with h | h; exact h; rw [Array.getElem?_eq_none h] at hA; cases hA)).trans hA
  have b0 := cell_regrown ((cell_of_row _ _ 0 _ _ _ hn).trans (show _ = some (Value.func (.func 24) #[] #[]) from rfl))
  have b1 := cell_regrown ((cell_of_row _ _ 1 _ _ _ hn).trans (show _ = some (Value.int .i64 lo) from rfl))
  have b2 := cell_regrown ((cell_of_row _ _ 2 _ _ _ hn).trans (show _ = some (Value.int .i64 hi) from rfl))
  have c0 := cell_regrown ((cell_of_row _ _ 0 _ _ _ hA2).trans (show _ = some (Value.int .i64 s) from rfl))
  have c1 := cell_regrown ((cell_of_row _ _ 1 _ _ _ hA2).trans (show _ = some (Value.int .i64 n) from rfl))
  have c2 := cell_regrown ((cell_of_row _ _ 2 _ _ _ hA2).trans (show _ = some (Value.float .f64 x) from rfl))
  have c3 := cell_regrown ((cell_of_row _ _ 3 _ _ _ hA2).trans (show _ = some (Value.int .i64 r) from rfl))
  have HW := Lib.hid hW
  have HB := Lib.hid hb
  clear hW hb hn hA2 hA
  go_enter Try.func22, Try.ntmps22
  go_wp2_with fail
  rw [← HW.out]
  refine Loose.wp_region_quiet_fast (by kernel_rfl) (by kernel_rfl) ?_
  (try simp only [List.append_eq, List.cons_append, List.nil_append])
  repeat (go_big_quiet_step (fail))
  go_big_quiet_step ((go_at_call 24; exact Calls.regrown_of (of_3 s n r x _)))
  repeat (go_big_quiet_step (fail))
  go_big_quiet_step ((go_at_call 24; exact Calls.regrown_of (of_3 s n r x _)))
  repeat (go_big_quiet_step (fail))
  refine wpQuiet_nil ?_
  intro _ hw'
  obtain ⟨⟨dq, osq⟩, hw''⟩ := hw'
  subst hw''
  go_wp2_with fail
  go_ret
  exact ⟨rfl, below_step HB.out (below_regrown _ dq osq)⟩

set_option maxRecDepth 100000 in
theorem wrong_3_ok (s n r lo hi : Int) (x : Nat) (A : Nat) (w : World) (hA : w.heap[A]? = some (.cells #[.int .i64 s, .int .i64 n, .float .f64 x, .int .i64 r] 24 (0, 0))) (h1 : ¬ n < lo) (h : ¬ hi < n) :
    Calls Try.prog 22 #[.agg #[.func (.func 24) #[] #[], .int .i64 lo, .int .i64 hi], .pointer (some ⟨A, 0, none⟩)] w fun e w' => e = .returned (.bool false) ∧ Below w.heap.size w w' := by
  have q1 : decide (n < lo) = false := decide_eq_false h1
  have q2 : decide (hi < n) = false := decide_eq_false h
  obtain ⟨W, hW⟩ : ∃ W, W = w.alloc (.cells #[.func (.func 24) #[] #[], .int .i64 lo, .int .i64 hi] 36) := ⟨_, rfl⟩
  have hb : Below w.heap.size w W := by rw [hW]; exact (Below.refl _ _).alloc (Nat.le_refl _) _
  have hn : W.heap[w.heap.size]? = some (.cells #[.func (.func 24) #[] #[], .int .i64 lo, .int .i64 hi] 36 (0, 0)) := by rw [hW]; exact heap_alloc_new _ _
  have hA2 : W.heap[A]? = some (.cells #[.int .i64 s, .int .i64 n, .float .f64 x, .int .i64 r] 24 (0, 0)) := (hb.block A (by rcases Nat.lt_or_ge A w.heap.size with h | h; exact h; rw [Array.getElem?_eq_none h] at hA; cases hA)).trans hA
  have b0 := cell_regrown ((cell_of_row _ _ 0 _ _ _ hn).trans (show _ = some (Value.func (.func 24) #[] #[]) from rfl))
  have b1 := cell_regrown ((cell_of_row _ _ 1 _ _ _ hn).trans (show _ = some (Value.int .i64 lo) from rfl))
  have b2 := cell_regrown ((cell_of_row _ _ 2 _ _ _ hn).trans (show _ = some (Value.int .i64 hi) from rfl))
  have c0 := cell_regrown ((cell_of_row _ _ 0 _ _ _ hA2).trans (show _ = some (Value.int .i64 s) from rfl))
  have c1 := cell_regrown ((cell_of_row _ _ 1 _ _ _ hA2).trans (show _ = some (Value.int .i64 n) from rfl))
  have c2 := cell_regrown ((cell_of_row _ _ 2 _ _ _ hA2).trans (show _ = some (Value.float .f64 x) from rfl))
  have c3 := cell_regrown ((cell_of_row _ _ 3 _ _ _ hA2).trans (show _ = some (Value.int .i64 r) from rfl))
  have HW := Lib.hid hW
  have HB := Lib.hid hb
  clear hW hb hn hA2 hA
  go_enter Try.func22, Try.ntmps22
  go_wp2_with fail
  rw [← HW.out]
  refine Loose.wp_region_quiet_fast (by kernel_rfl) (by kernel_rfl) ?_
  (try simp only [List.append_eq, List.cons_append, List.nil_append])
  repeat (go_big_quiet_step (fail))
  go_big_quiet_step ((go_at_call 24; exact Calls.regrown_of (of_3 s n r x _)))
  repeat (go_big_quiet_step (fail))
  go_big_quiet_step ((go_at_call 24; exact Calls.regrown_of (of_3 s n r x _)))
  repeat (go_big_quiet_step (fail))
  refine wpQuiet_nil ?_
  intro _ hw'
  obtain ⟨⟨dq, osq⟩, hw''⟩ := hw'
  subst hw''
  go_wp2_with fail
  go_ret
  exact ⟨rfl, below_step HB.out (below_regrown _ dq osq)⟩

set_option maxRecDepth 100000 in
theorem wrong_4_low (s n r lo hi : Int) (x : Nat) (A : Nat) (w : World) (hA : w.heap[A]? = some (.cells #[.int .i64 s, .int .i64 n, .float .f64 x, .int .i64 r] 24 (0, 0))) (h : r < lo) :
    Calls Try.prog 22 #[.agg #[.func (.func 25) #[] #[], .int .i64 lo, .int .i64 hi], .pointer (some ⟨A, 0, none⟩)] w fun e w' => e = .returned (.bool true) ∧ Below w.heap.size w w' := by
  have q1 : decide (r < lo) = true := decide_eq_true h
  obtain ⟨W, hW⟩ : ∃ W, W = w.alloc (.cells #[.func (.func 25) #[] #[], .int .i64 lo, .int .i64 hi] 36) := ⟨_, rfl⟩
  have hb : Below w.heap.size w W := by rw [hW]; exact (Below.refl _ _).alloc (Nat.le_refl _) _
  have hn : W.heap[w.heap.size]? = some (.cells #[.func (.func 25) #[] #[], .int .i64 lo, .int .i64 hi] 36 (0, 0)) := by rw [hW]; exact heap_alloc_new _ _
  have hA2 : W.heap[A]? = some (.cells #[.int .i64 s, .int .i64 n, .float .f64 x, .int .i64 r] 24 (0, 0)) := (hb.block A (by rcases Nat.lt_or_ge A w.heap.size with h | h; exact h; rw [Array.getElem?_eq_none h] at hA; cases hA)).trans hA
  have b0 := cell_regrown ((cell_of_row _ _ 0 _ _ _ hn).trans (show _ = some (Value.func (.func 25) #[] #[]) from rfl))
  have b1 := cell_regrown ((cell_of_row _ _ 1 _ _ _ hn).trans (show _ = some (Value.int .i64 lo) from rfl))
  have b2 := cell_regrown ((cell_of_row _ _ 2 _ _ _ hn).trans (show _ = some (Value.int .i64 hi) from rfl))
  have c0 := cell_regrown ((cell_of_row _ _ 0 _ _ _ hA2).trans (show _ = some (Value.int .i64 s) from rfl))
  have c1 := cell_regrown ((cell_of_row _ _ 1 _ _ _ hA2).trans (show _ = some (Value.int .i64 n) from rfl))
  have c2 := cell_regrown ((cell_of_row _ _ 2 _ _ _ hA2).trans (show _ = some (Value.float .f64 x) from rfl))
  have c3 := cell_regrown ((cell_of_row _ _ 3 _ _ _ hA2).trans (show _ = some (Value.int .i64 r) from rfl))
  have HW := Lib.hid hW
  have HB := Lib.hid hb
  clear hW hb hn hA2 hA
  go_enter Try.func22, Try.ntmps22
  go_wp2_with fail
  rw [← HW.out]
  refine Loose.wp_region_quiet_fast (by kernel_rfl) (by kernel_rfl) ?_
  (try simp only [List.append_eq, List.cons_append, List.nil_append])
  repeat (go_big_quiet_step (fail))
  go_big_quiet_step ((go_at_call 25; exact Calls.regrown_of (of_4 s n r x _)))
  repeat (go_big_quiet_step (fail))
  refine wpQuiet_nil ?_
  intro _ hw'
  obtain ⟨⟨dq, osq⟩, hw''⟩ := hw'
  subst hw''
  go_wp2_with fail
  go_ret
  exact ⟨rfl, below_step HB.out (below_regrown _ dq osq)⟩

set_option maxRecDepth 100000 in
theorem wrong_4_high (s n r lo hi : Int) (x : Nat) (A : Nat) (w : World) (hA : w.heap[A]? = some (.cells #[.int .i64 s, .int .i64 n, .float .f64 x, .int .i64 r] 24 (0, 0))) (h1 : ¬ r < lo) (h : hi < r) :
    Calls Try.prog 22 #[.agg #[.func (.func 25) #[] #[], .int .i64 lo, .int .i64 hi], .pointer (some ⟨A, 0, none⟩)] w fun e w' => e = .returned (.bool true) ∧ Below w.heap.size w w' := by
  have q1 : decide (r < lo) = false := decide_eq_false h1
  have q2 : decide (hi < r) = true := decide_eq_true h
  obtain ⟨W, hW⟩ : ∃ W, W = w.alloc (.cells #[.func (.func 25) #[] #[], .int .i64 lo, .int .i64 hi] 36) := ⟨_, rfl⟩
  have hb : Below w.heap.size w W := by rw [hW]; exact (Below.refl _ _).alloc (Nat.le_refl _) _
  have hn : W.heap[w.heap.size]? = some (.cells #[.func (.func 25) #[] #[], .int .i64 lo, .int .i64 hi] 36 (0, 0)) := by rw [hW]; exact heap_alloc_new _ _
  have hA2 : W.heap[A]? = some (.cells #[.int .i64 s, .int .i64 n, .float .f64 x, .int .i64 r] 24 (0, 0)) := (hb.block A (by rcases Nat.lt_or_ge A w.heap.size with h | h; exact h; rw [Array.getElem?_eq_none h] at hA; cases hA)).trans hA
  have b0 := cell_regrown ((cell_of_row _ _ 0 _ _ _ hn).trans (show _ = some (Value.func (.func 25) #[] #[]) from rfl))
  have b1 := cell_regrown ((cell_of_row _ _ 1 _ _ _ hn).trans (show _ = some (Value.int .i64 lo) from rfl))
  have b2 := cell_regrown ((cell_of_row _ _ 2 _ _ _ hn).trans (show _ = some (Value.int .i64 hi) from rfl))
  have c0 := cell_regrown ((cell_of_row _ _ 0 _ _ _ hA2).trans (show _ = some (Value.int .i64 s) from rfl))
  have c1 := cell_regrown ((cell_of_row _ _ 1 _ _ _ hA2).trans (show _ = some (Value.int .i64 n) from rfl))
  have c2 := cell_regrown ((cell_of_row _ _ 2 _ _ _ hA2).trans (show _ = some (Value.float .f64 x) from rfl))
  have c3 := cell_regrown ((cell_of_row _ _ 3 _ _ _ hA2).trans (show _ = some (Value.int .i64 r) from rfl))
  have HW := Lib.hid hW
  have HB := Lib.hid hb
  clear hW hb hn hA2 hA
  go_enter Try.func22, Try.ntmps22
  go_wp2_with fail
  rw [← HW.out]
  refine Loose.wp_region_quiet_fast (by kernel_rfl) (by kernel_rfl) ?_
  (try simp only [List.append_eq, List.cons_append, List.nil_append])
  repeat (go_big_quiet_step (fail))
  go_big_quiet_step ((go_at_call 25; exact Calls.regrown_of (of_4 s n r x _)))
  repeat (go_big_quiet_step (fail))
  go_big_quiet_step ((go_at_call 25; exact Calls.regrown_of (of_4 s n r x _)))
  repeat (go_big_quiet_step (fail))
  refine wpQuiet_nil ?_
  intro _ hw'
  obtain ⟨⟨dq, osq⟩, hw''⟩ := hw'
  subst hw''
  go_wp2_with fail
  go_ret
  exact ⟨rfl, below_step HB.out (below_regrown _ dq osq)⟩

set_option maxRecDepth 100000 in
theorem wrong_4_ok (s n r lo hi : Int) (x : Nat) (A : Nat) (w : World) (hA : w.heap[A]? = some (.cells #[.int .i64 s, .int .i64 n, .float .f64 x, .int .i64 r] 24 (0, 0))) (h1 : ¬ r < lo) (h : ¬ hi < r) :
    Calls Try.prog 22 #[.agg #[.func (.func 25) #[] #[], .int .i64 lo, .int .i64 hi], .pointer (some ⟨A, 0, none⟩)] w fun e w' => e = .returned (.bool false) ∧ Below w.heap.size w w' := by
  have q1 : decide (r < lo) = false := decide_eq_false h1
  have q2 : decide (hi < r) = false := decide_eq_false h
  obtain ⟨W, hW⟩ : ∃ W, W = w.alloc (.cells #[.func (.func 25) #[] #[], .int .i64 lo, .int .i64 hi] 36) := ⟨_, rfl⟩
  have hb : Below w.heap.size w W := by rw [hW]; exact (Below.refl _ _).alloc (Nat.le_refl _) _
  have hn : W.heap[w.heap.size]? = some (.cells #[.func (.func 25) #[] #[], .int .i64 lo, .int .i64 hi] 36 (0, 0)) := by rw [hW]; exact heap_alloc_new _ _
  have hA2 : W.heap[A]? = some (.cells #[.int .i64 s, .int .i64 n, .float .f64 x, .int .i64 r] 24 (0, 0)) := (hb.block A (by rcases Nat.lt_or_ge A w.heap.size with h | h; exact h; rw [Array.getElem?_eq_none h] at hA; cases hA)).trans hA
  have b0 := cell_regrown ((cell_of_row _ _ 0 _ _ _ hn).trans (show _ = some (Value.func (.func 25) #[] #[]) from rfl))
  have b1 := cell_regrown ((cell_of_row _ _ 1 _ _ _ hn).trans (show _ = some (Value.int .i64 lo) from rfl))
  have b2 := cell_regrown ((cell_of_row _ _ 2 _ _ _ hn).trans (show _ = some (Value.int .i64 hi) from rfl))
  have c0 := cell_regrown ((cell_of_row _ _ 0 _ _ _ hA2).trans (show _ = some (Value.int .i64 s) from rfl))
  have c1 := cell_regrown ((cell_of_row _ _ 1 _ _ _ hA2).trans (show _ = some (Value.int .i64 n) from rfl))
  have c2 := cell_regrown ((cell_of_row _ _ 2 _ _ _ hA2).trans (show _ = some (Value.float .f64 x) from rfl))
  have c3 := cell_regrown ((cell_of_row _ _ 3 _ _ _ hA2).trans (show _ = some (Value.int .i64 r) from rfl))
  have HW := Lib.hid hW
  have HB := Lib.hid hb
  clear hW hb hn hA2 hA
  go_enter Try.func22, Try.ntmps22
  go_wp2_with fail
  rw [← HW.out]
  refine Loose.wp_region_quiet_fast (by kernel_rfl) (by kernel_rfl) ?_
  (try simp only [List.append_eq, List.cons_append, List.nil_append])
  repeat (go_big_quiet_step (fail))
  go_big_quiet_step ((go_at_call 25; exact Calls.regrown_of (of_4 s n r x _)))
  repeat (go_big_quiet_step (fail))
  go_big_quiet_step ((go_at_call 25; exact Calls.regrown_of (of_4 s n r x _)))
  repeat (go_big_quiet_step (fail))
  refine wpQuiet_nil ?_
  intro _ hw'
  obtain ⟨⟨dq, osq⟩, hw''⟩ := hw'
  subst hw''
  go_wp2_with fail
  go_ret
  exact ⟨rfl, below_step HB.out (below_regrown _ dq osq)⟩

end Go.Proofs.Ytpnehpkecfbneaa.G
