/- The reference's Same: unlike in one of the first fields. -/
import Derived.Test.YtjkiofgllmjkcaaS3c
import Derived.Test.YtjkiofgllmjkcaaGFast
import Derived.BigQuiet
namespace Go.Proofs.Ytjkiofgllmjkcaa.G
open Go.RowKit
set_option linter.unusedVariables false
set_option linter.unusedSimpArgs false

set_option maxRecDepth 100000 in
set_option maxHeartbeats 2000000 in
theorem rsame_0 (k rk p to pl : Int) (i v : ByteArray) (t n m cap : Nat) (oa : Option Addr) (k' rk' p' to' pl' : Int) (i' v' : ByteArray) (t' n' m' cap' : Nat) (oa' : Option Addr) (w : World) (f0 : (k == k') = false)  :
    Calls Try.prog 20 #[.agg #[.int .i64 k, .int .i64 rk, .string i, .string v, .float .f64 t, .int .i64 p, .int .u64 n, .slice oa m cap, .int .i64 to, .int .i64 pl], .agg #[.int .i64 k', .int .i64 rk', .string i', .string v', .float .f64 t', .int .i64 p', .int .u64 n', .slice oa' m' cap', .int .i64 to', .int .i64 pl']] w fun e w' => e = .returned (.bool false) ∧ Below w.heap.size w w' := by
  obtain ⟨n1, n2, n3⟩ := two_newA w (.cells #[.int .i64 k, .int .i64 rk, .string i, .string v, .float .f64 t, .int .i64 p, .int .u64 n, .slice oa m cap, .int .i64 to, .int .i64 pl] 47) (.cells #[.int .i64 k', .int .i64 rk', .string i', .string v', .float .f64 t', .int .i64 p', .int .u64 n', .slice oa' m' cap', .int .i64 to', .int .i64 pl'] 47)
  obtain ⟨W, hW⟩ : ∃ W, W = (w.alloc (.cells #[.int .i64 k, .int .i64 rk, .string i, .string v, .float .f64 t, .int .i64 p, .int .u64 n, .slice oa m cap, .int .i64 to, .int .i64 pl] 47)).alloc (.cells #[.int .i64 k', .int .i64 rk', .string i', .string v', .float .f64 t', .int .i64 p', .int .u64 n', .slice oa' m' cap', .int .i64 to', .int .i64 pl'] 47) := ⟨_, rfl⟩
  rw [← hW] at n1 n2 n3
  have HW := Lib.hid hW
  have N3 := Lib.hid n3
  obtain ⟨a0, a1, a2, a3, a4, a5, a6, a7, a8, a9⟩ := cells10 n1
  obtain ⟨b0, b1, b2, b3, b4, b5, b6, b7, b8, b9⟩ := cells10 n2
  have A0 := cell_regrown a0
  have B0 := cell_regrown b0
  have A1 := cell_regrown a1
  have B1 := cell_regrown b1
  have A2 := cell_regrown a2
  have B2 := cell_regrown b2
  have A3 := cell_regrown a3
  have B3 := cell_regrown b3
  have A4 := cell_regrown a4
  have B4 := cell_regrown b4
  have A5 := cell_regrown a5
  have B5 := cell_regrown b5
  have A6 := cell_regrown a6
  have B6 := cell_regrown b6
  have A7 := cell_regrown a7
  have B7 := cell_regrown b7
  have A8 := cell_regrown a8
  have B8 := cell_regrown b8
  have A9 := cell_regrown a9
  have B9 := cell_regrown b9
  clear n1 n2 n3 hW a0 a1 a2 a3 a4 a5 a6 a7 a8 a9 b0 b1 b2 b3 b4 b5 b6 b7 b8 b9
  have fb := bitsS t
  have fb' := bitsS t'
  go_enter Try.func20, Try.ntmps20
  go_wp2_with fail
  rw [← HW.out]
  refine Loose.wp_region_quiet_fast (by kernel_rfl) (by kernel_rfl) ?_
  (try simp only [List.append_eq, List.cons_append, List.nil_append])
  repeat (go_big_quiet_step (fail))
  refine wpQuiet_nil ?_
  intro _ hw'
  obtain ⟨⟨dq, osq⟩, hw''⟩ := hw'
  subst hw''
  go_wp2_with fail
  go_ret
  exact ⟨rfl, below_step N3.out (below_regrown _ dq osq)⟩

set_option maxRecDepth 100000 in
set_option maxHeartbeats 2000000 in
theorem rsame_1 (k rk p to pl : Int) (i v : ByteArray) (t n m cap : Nat) (oa : Option Addr) (k' rk' p' to' pl' : Int) (i' v' : ByteArray) (t' n' m' cap' : Nat) (oa' : Option Addr) (w : World) (f0 : (k == k') = true) (f1 : (rk == rk') = false)  :
    Calls Try.prog 20 #[.agg #[.int .i64 k, .int .i64 rk, .string i, .string v, .float .f64 t, .int .i64 p, .int .u64 n, .slice oa m cap, .int .i64 to, .int .i64 pl], .agg #[.int .i64 k', .int .i64 rk', .string i', .string v', .float .f64 t', .int .i64 p', .int .u64 n', .slice oa' m' cap', .int .i64 to', .int .i64 pl']] w fun e w' => e = .returned (.bool false) ∧ Below w.heap.size w w' := by
  obtain ⟨n1, n2, n3⟩ := two_newA w (.cells #[.int .i64 k, .int .i64 rk, .string i, .string v, .float .f64 t, .int .i64 p, .int .u64 n, .slice oa m cap, .int .i64 to, .int .i64 pl] 47) (.cells #[.int .i64 k', .int .i64 rk', .string i', .string v', .float .f64 t', .int .i64 p', .int .u64 n', .slice oa' m' cap', .int .i64 to', .int .i64 pl'] 47)
  obtain ⟨W, hW⟩ : ∃ W, W = (w.alloc (.cells #[.int .i64 k, .int .i64 rk, .string i, .string v, .float .f64 t, .int .i64 p, .int .u64 n, .slice oa m cap, .int .i64 to, .int .i64 pl] 47)).alloc (.cells #[.int .i64 k', .int .i64 rk', .string i', .string v', .float .f64 t', .int .i64 p', .int .u64 n', .slice oa' m' cap', .int .i64 to', .int .i64 pl'] 47) := ⟨_, rfl⟩
  rw [← hW] at n1 n2 n3
  have HW := Lib.hid hW
  have N3 := Lib.hid n3
  obtain ⟨a0, a1, a2, a3, a4, a5, a6, a7, a8, a9⟩ := cells10 n1
  obtain ⟨b0, b1, b2, b3, b4, b5, b6, b7, b8, b9⟩ := cells10 n2
  have A0 := cell_regrown a0
  have B0 := cell_regrown b0
  have A1 := cell_regrown a1
  have B1 := cell_regrown b1
  have A2 := cell_regrown a2
  have B2 := cell_regrown b2
  have A3 := cell_regrown a3
  have B3 := cell_regrown b3
  have A4 := cell_regrown a4
  have B4 := cell_regrown b4
  have A5 := cell_regrown a5
  have B5 := cell_regrown b5
  have A6 := cell_regrown a6
  have B6 := cell_regrown b6
  have A7 := cell_regrown a7
  have B7 := cell_regrown b7
  have A8 := cell_regrown a8
  have B8 := cell_regrown b8
  have A9 := cell_regrown a9
  have B9 := cell_regrown b9
  clear n1 n2 n3 hW a0 a1 a2 a3 a4 a5 a6 a7 a8 a9 b0 b1 b2 b3 b4 b5 b6 b7 b8 b9
  have fb := bitsS t
  have fb' := bitsS t'
  go_enter Try.func20, Try.ntmps20
  go_wp2_with fail
  rw [← HW.out]
  refine Loose.wp_region_quiet_fast (by kernel_rfl) (by kernel_rfl) ?_
  (try simp only [List.append_eq, List.cons_append, List.nil_append])
  repeat (go_big_quiet_step (fail))
  refine wpQuiet_nil ?_
  intro _ hw'
  obtain ⟨⟨dq, osq⟩, hw''⟩ := hw'
  subst hw''
  go_wp2_with fail
  go_ret
  exact ⟨rfl, below_step N3.out (below_regrown _ dq osq)⟩

set_option maxRecDepth 100000 in
set_option maxHeartbeats 2000000 in
theorem rsame_2 (k rk p to pl : Int) (i v : ByteArray) (t n m cap : Nat) (oa : Option Addr) (k' rk' p' to' pl' : Int) (i' v' : ByteArray) (t' n' m' cap' : Nat) (oa' : Option Addr) (w : World) (f0 : (k == k') = true) (f1 : (rk == rk') = true) (f2 : (i.toList == i'.toList) = false)  :
    Calls Try.prog 20 #[.agg #[.int .i64 k, .int .i64 rk, .string i, .string v, .float .f64 t, .int .i64 p, .int .u64 n, .slice oa m cap, .int .i64 to, .int .i64 pl], .agg #[.int .i64 k', .int .i64 rk', .string i', .string v', .float .f64 t', .int .i64 p', .int .u64 n', .slice oa' m' cap', .int .i64 to', .int .i64 pl']] w fun e w' => e = .returned (.bool false) ∧ Below w.heap.size w w' := by
  obtain ⟨n1, n2, n3⟩ := two_newA w (.cells #[.int .i64 k, .int .i64 rk, .string i, .string v, .float .f64 t, .int .i64 p, .int .u64 n, .slice oa m cap, .int .i64 to, .int .i64 pl] 47) (.cells #[.int .i64 k', .int .i64 rk', .string i', .string v', .float .f64 t', .int .i64 p', .int .u64 n', .slice oa' m' cap', .int .i64 to', .int .i64 pl'] 47)
  obtain ⟨W, hW⟩ : ∃ W, W = (w.alloc (.cells #[.int .i64 k, .int .i64 rk, .string i, .string v, .float .f64 t, .int .i64 p, .int .u64 n, .slice oa m cap, .int .i64 to, .int .i64 pl] 47)).alloc (.cells #[.int .i64 k', .int .i64 rk', .string i', .string v', .float .f64 t', .int .i64 p', .int .u64 n', .slice oa' m' cap', .int .i64 to', .int .i64 pl'] 47) := ⟨_, rfl⟩
  rw [← hW] at n1 n2 n3
  have HW := Lib.hid hW
  have N3 := Lib.hid n3
  obtain ⟨a0, a1, a2, a3, a4, a5, a6, a7, a8, a9⟩ := cells10 n1
  obtain ⟨b0, b1, b2, b3, b4, b5, b6, b7, b8, b9⟩ := cells10 n2
  have A0 := cell_regrown a0
  have B0 := cell_regrown b0
  have A1 := cell_regrown a1
  have B1 := cell_regrown b1
  have A2 := cell_regrown a2
  have B2 := cell_regrown b2
  have A3 := cell_regrown a3
  have B3 := cell_regrown b3
  have A4 := cell_regrown a4
  have B4 := cell_regrown b4
  have A5 := cell_regrown a5
  have B5 := cell_regrown b5
  have A6 := cell_regrown a6
  have B6 := cell_regrown b6
  have A7 := cell_regrown a7
  have B7 := cell_regrown b7
  have A8 := cell_regrown a8
  have B8 := cell_regrown b8
  have A9 := cell_regrown a9
  have B9 := cell_regrown b9
  clear n1 n2 n3 hW a0 a1 a2 a3 a4 a5 a6 a7 a8 a9 b0 b1 b2 b3 b4 b5 b6 b7 b8 b9
  have fb := bitsS t
  have fb' := bitsS t'
  go_enter Try.func20, Try.ntmps20
  go_wp2_with fail
  rw [← HW.out]
  refine Loose.wp_region_quiet_fast (by kernel_rfl) (by kernel_rfl) ?_
  (try simp only [List.append_eq, List.cons_append, List.nil_append])
  repeat (go_big_quiet_step (fail))
  refine wpQuiet_nil ?_
  intro _ hw'
  obtain ⟨⟨dq, osq⟩, hw''⟩ := hw'
  subst hw''
  go_wp2_with fail
  go_ret
  exact ⟨rfl, below_step N3.out (below_regrown _ dq osq)⟩

set_option maxRecDepth 100000 in
set_option maxHeartbeats 2000000 in
theorem rsame_3 (k rk p to pl : Int) (i v : ByteArray) (t n m cap : Nat) (oa : Option Addr) (k' rk' p' to' pl' : Int) (i' v' : ByteArray) (t' n' m' cap' : Nat) (oa' : Option Addr) (w : World) (f0 : (k == k') = true) (f1 : (rk == rk') = true) (f2 : (i.toList == i'.toList) = true) (f3 : (v.toList == v'.toList) = false)  :
    Calls Try.prog 20 #[.agg #[.int .i64 k, .int .i64 rk, .string i, .string v, .float .f64 t, .int .i64 p, .int .u64 n, .slice oa m cap, .int .i64 to, .int .i64 pl], .agg #[.int .i64 k', .int .i64 rk', .string i', .string v', .float .f64 t', .int .i64 p', .int .u64 n', .slice oa' m' cap', .int .i64 to', .int .i64 pl']] w fun e w' => e = .returned (.bool false) ∧ Below w.heap.size w w' := by
  obtain ⟨n1, n2, n3⟩ := two_newA w (.cells #[.int .i64 k, .int .i64 rk, .string i, .string v, .float .f64 t, .int .i64 p, .int .u64 n, .slice oa m cap, .int .i64 to, .int .i64 pl] 47) (.cells #[.int .i64 k', .int .i64 rk', .string i', .string v', .float .f64 t', .int .i64 p', .int .u64 n', .slice oa' m' cap', .int .i64 to', .int .i64 pl'] 47)
  obtain ⟨W, hW⟩ : ∃ W, W = (w.alloc (.cells #[.int .i64 k, .int .i64 rk, .string i, .string v, .float .f64 t, .int .i64 p, .int .u64 n, .slice oa m cap, .int .i64 to, .int .i64 pl] 47)).alloc (.cells #[.int .i64 k', .int .i64 rk', .string i', .string v', .float .f64 t', .int .i64 p', .int .u64 n', .slice oa' m' cap', .int .i64 to', .int .i64 pl'] 47) := ⟨_, rfl⟩
  rw [← hW] at n1 n2 n3
  have HW := Lib.hid hW
  have N3 := Lib.hid n3
  obtain ⟨a0, a1, a2, a3, a4, a5, a6, a7, a8, a9⟩ := cells10 n1
  obtain ⟨b0, b1, b2, b3, b4, b5, b6, b7, b8, b9⟩ := cells10 n2
  have A0 := cell_regrown a0
  have B0 := cell_regrown b0
  have A1 := cell_regrown a1
  have B1 := cell_regrown b1
  have A2 := cell_regrown a2
  have B2 := cell_regrown b2
  have A3 := cell_regrown a3
  have B3 := cell_regrown b3
  have A4 := cell_regrown a4
  have B4 := cell_regrown b4
  have A5 := cell_regrown a5
  have B5 := cell_regrown b5
  have A6 := cell_regrown a6
  have B6 := cell_regrown b6
  have A7 := cell_regrown a7
  have B7 := cell_regrown b7
  have A8 := cell_regrown a8
  have B8 := cell_regrown b8
  have A9 := cell_regrown a9
  have B9 := cell_regrown b9
  clear n1 n2 n3 hW a0 a1 a2 a3 a4 a5 a6 a7 a8 a9 b0 b1 b2 b3 b4 b5 b6 b7 b8 b9
  have fb := bitsS t
  have fb' := bitsS t'
  go_enter Try.func20, Try.ntmps20
  go_wp2_with fail
  rw [← HW.out]
  refine Loose.wp_region_quiet_fast (by kernel_rfl) (by kernel_rfl) ?_
  (try simp only [List.append_eq, List.cons_append, List.nil_append])
  repeat (go_big_quiet_step (fail))
  refine wpQuiet_nil ?_
  intro _ hw'
  obtain ⟨⟨dq, osq⟩, hw''⟩ := hw'
  subst hw''
  go_wp2_with fail
  go_ret
  exact ⟨rfl, below_step N3.out (below_regrown _ dq osq)⟩

set_option maxRecDepth 100000 in
set_option maxHeartbeats 2000000 in
theorem rsame_4 (k rk p to pl : Int) (i v : ByteArray) (t n m cap : Nat) (oa : Option Addr) (k' rk' p' to' pl' : Int) (i' v' : ByteArray) (t' n' m' cap' : Nat) (oa' : Option Addr) (w : World) (f0 : (k == k') = true) (f1 : (rk == rk') = true) (f2 : (i.toList == i'.toList) = true) (f3 : (v.toList == v'.toList) = true) (f4 : ((t : Int) == (t' : Int)) = false)  :
    Calls Try.prog 20 #[.agg #[.int .i64 k, .int .i64 rk, .string i, .string v, .float .f64 t, .int .i64 p, .int .u64 n, .slice oa m cap, .int .i64 to, .int .i64 pl], .agg #[.int .i64 k', .int .i64 rk', .string i', .string v', .float .f64 t', .int .i64 p', .int .u64 n', .slice oa' m' cap', .int .i64 to', .int .i64 pl']] w fun e w' => e = .returned (.bool false) ∧ Below w.heap.size w w' := by
  obtain ⟨n1, n2, n3⟩ := two_newA w (.cells #[.int .i64 k, .int .i64 rk, .string i, .string v, .float .f64 t, .int .i64 p, .int .u64 n, .slice oa m cap, .int .i64 to, .int .i64 pl] 47) (.cells #[.int .i64 k', .int .i64 rk', .string i', .string v', .float .f64 t', .int .i64 p', .int .u64 n', .slice oa' m' cap', .int .i64 to', .int .i64 pl'] 47)
  obtain ⟨W, hW⟩ : ∃ W, W = (w.alloc (.cells #[.int .i64 k, .int .i64 rk, .string i, .string v, .float .f64 t, .int .i64 p, .int .u64 n, .slice oa m cap, .int .i64 to, .int .i64 pl] 47)).alloc (.cells #[.int .i64 k', .int .i64 rk', .string i', .string v', .float .f64 t', .int .i64 p', .int .u64 n', .slice oa' m' cap', .int .i64 to', .int .i64 pl'] 47) := ⟨_, rfl⟩
  rw [← hW] at n1 n2 n3
  have HW := Lib.hid hW
  have N3 := Lib.hid n3
  obtain ⟨a0, a1, a2, a3, a4, a5, a6, a7, a8, a9⟩ := cells10 n1
  obtain ⟨b0, b1, b2, b3, b4, b5, b6, b7, b8, b9⟩ := cells10 n2
  have A0 := cell_regrown a0
  have B0 := cell_regrown b0
  have A1 := cell_regrown a1
  have B1 := cell_regrown b1
  have A2 := cell_regrown a2
  have B2 := cell_regrown b2
  have A3 := cell_regrown a3
  have B3 := cell_regrown b3
  have A4 := cell_regrown a4
  have B4 := cell_regrown b4
  have A5 := cell_regrown a5
  have B5 := cell_regrown b5
  have A6 := cell_regrown a6
  have B6 := cell_regrown b6
  have A7 := cell_regrown a7
  have B7 := cell_regrown b7
  have A8 := cell_regrown a8
  have B8 := cell_regrown b8
  have A9 := cell_regrown a9
  have B9 := cell_regrown b9
  clear n1 n2 n3 hW a0 a1 a2 a3 a4 a5 a6 a7 a8 a9 b0 b1 b2 b3 b4 b5 b6 b7 b8 b9
  have fb := bitsS t
  have fb' := bitsS t'
  go_enter Try.func20, Try.ntmps20
  go_wp2_with fail
  rw [← HW.out]
  refine Loose.wp_region_quiet_fast (by kernel_rfl) (by kernel_rfl) ?_
  (try simp only [List.append_eq, List.cons_append, List.nil_append])
  repeat (go_big_quiet_step (fail))
  refine wpQuiet_nil ?_
  intro _ hw'
  obtain ⟨⟨dq, osq⟩, hw''⟩ := hw'
  subst hw''
  go_wp2_with fail
  go_ret
  exact ⟨rfl, below_step N3.out (below_regrown _ dq osq)⟩

set_option maxRecDepth 100000 in
set_option maxHeartbeats 2000000 in
theorem rsame_5 (k rk p to pl : Int) (i v : ByteArray) (t n m cap : Nat) (oa : Option Addr) (k' rk' p' to' pl' : Int) (i' v' : ByteArray) (t' n' m' cap' : Nat) (oa' : Option Addr) (w : World) (f0 : (k == k') = true) (f1 : (rk == rk') = true) (f2 : (i.toList == i'.toList) = true) (f3 : (v.toList == v'.toList) = true) (f4 : ((t : Int) == (t' : Int)) = true) (f5 : (p == p') = false)  :
    Calls Try.prog 20 #[.agg #[.int .i64 k, .int .i64 rk, .string i, .string v, .float .f64 t, .int .i64 p, .int .u64 n, .slice oa m cap, .int .i64 to, .int .i64 pl], .agg #[.int .i64 k', .int .i64 rk', .string i', .string v', .float .f64 t', .int .i64 p', .int .u64 n', .slice oa' m' cap', .int .i64 to', .int .i64 pl']] w fun e w' => e = .returned (.bool false) ∧ Below w.heap.size w w' := by
  obtain ⟨n1, n2, n3⟩ := two_newA w (.cells #[.int .i64 k, .int .i64 rk, .string i, .string v, .float .f64 t, .int .i64 p, .int .u64 n, .slice oa m cap, .int .i64 to, .int .i64 pl] 47) (.cells #[.int .i64 k', .int .i64 rk', .string i', .string v', .float .f64 t', .int .i64 p', .int .u64 n', .slice oa' m' cap', .int .i64 to', .int .i64 pl'] 47)
  obtain ⟨W, hW⟩ : ∃ W, W = (w.alloc (.cells #[.int .i64 k, .int .i64 rk, .string i, .string v, .float .f64 t, .int .i64 p, .int .u64 n, .slice oa m cap, .int .i64 to, .int .i64 pl] 47)).alloc (.cells #[.int .i64 k', .int .i64 rk', .string i', .string v', .float .f64 t', .int .i64 p', .int .u64 n', .slice oa' m' cap', .int .i64 to', .int .i64 pl'] 47) := ⟨_, rfl⟩
  rw [← hW] at n1 n2 n3
  have HW := Lib.hid hW
  have N3 := Lib.hid n3
  obtain ⟨a0, a1, a2, a3, a4, a5, a6, a7, a8, a9⟩ := cells10 n1
  obtain ⟨b0, b1, b2, b3, b4, b5, b6, b7, b8, b9⟩ := cells10 n2
  have A0 := cell_regrown a0
  have B0 := cell_regrown b0
  have A1 := cell_regrown a1
  have B1 := cell_regrown b1
  have A2 := cell_regrown a2
  have B2 := cell_regrown b2
  have A3 := cell_regrown a3
  have B3 := cell_regrown b3
  have A4 := cell_regrown a4
  have B4 := cell_regrown b4
  have A5 := cell_regrown a5
  have B5 := cell_regrown b5
  have A6 := cell_regrown a6
  have B6 := cell_regrown b6
  have A7 := cell_regrown a7
  have B7 := cell_regrown b7
  have A8 := cell_regrown a8
  have B8 := cell_regrown b8
  have A9 := cell_regrown a9
  have B9 := cell_regrown b9
  clear n1 n2 n3 hW a0 a1 a2 a3 a4 a5 a6 a7 a8 a9 b0 b1 b2 b3 b4 b5 b6 b7 b8 b9
  have fb := bitsS t
  have fb' := bitsS t'
  go_enter Try.func20, Try.ntmps20
  go_wp2_with fail
  rw [← HW.out]
  refine Loose.wp_region_quiet_fast (by kernel_rfl) (by kernel_rfl) ?_
  (try simp only [List.append_eq, List.cons_append, List.nil_append])
  repeat (go_big_quiet_step (fail))
  refine wpQuiet_nil ?_
  intro _ hw'
  obtain ⟨⟨dq, osq⟩, hw''⟩ := hw'
  subst hw''
  go_wp2_with fail
  go_ret
  exact ⟨rfl, below_step N3.out (below_regrown _ dq osq)⟩

set_option maxRecDepth 100000 in
set_option maxHeartbeats 2000000 in
theorem rsame_6 (k rk p to pl : Int) (i v : ByteArray) (t n m cap : Nat) (oa : Option Addr) (k' rk' p' to' pl' : Int) (i' v' : ByteArray) (t' n' m' cap' : Nat) (oa' : Option Addr) (w : World) (f0 : (k == k') = true) (f1 : (rk == rk') = true) (f2 : (i.toList == i'.toList) = true) (f3 : (v.toList == v'.toList) = true) (f4 : ((t : Int) == (t' : Int)) = true) (f5 : (p == p') = true) (f6 : ((n : Int) == (n' : Int)) = false)  :
    Calls Try.prog 20 #[.agg #[.int .i64 k, .int .i64 rk, .string i, .string v, .float .f64 t, .int .i64 p, .int .u64 n, .slice oa m cap, .int .i64 to, .int .i64 pl], .agg #[.int .i64 k', .int .i64 rk', .string i', .string v', .float .f64 t', .int .i64 p', .int .u64 n', .slice oa' m' cap', .int .i64 to', .int .i64 pl']] w fun e w' => e = .returned (.bool false) ∧ Below w.heap.size w w' := by
  obtain ⟨n1, n2, n3⟩ := two_newA w (.cells #[.int .i64 k, .int .i64 rk, .string i, .string v, .float .f64 t, .int .i64 p, .int .u64 n, .slice oa m cap, .int .i64 to, .int .i64 pl] 47) (.cells #[.int .i64 k', .int .i64 rk', .string i', .string v', .float .f64 t', .int .i64 p', .int .u64 n', .slice oa' m' cap', .int .i64 to', .int .i64 pl'] 47)
  obtain ⟨W, hW⟩ : ∃ W, W = (w.alloc (.cells #[.int .i64 k, .int .i64 rk, .string i, .string v, .float .f64 t, .int .i64 p, .int .u64 n, .slice oa m cap, .int .i64 to, .int .i64 pl] 47)).alloc (.cells #[.int .i64 k', .int .i64 rk', .string i', .string v', .float .f64 t', .int .i64 p', .int .u64 n', .slice oa' m' cap', .int .i64 to', .int .i64 pl'] 47) := ⟨_, rfl⟩
  rw [← hW] at n1 n2 n3
  have HW := Lib.hid hW
  have N3 := Lib.hid n3
  obtain ⟨a0, a1, a2, a3, a4, a5, a6, a7, a8, a9⟩ := cells10 n1
  obtain ⟨b0, b1, b2, b3, b4, b5, b6, b7, b8, b9⟩ := cells10 n2
  have A0 := cell_regrown a0
  have B0 := cell_regrown b0
  have A1 := cell_regrown a1
  have B1 := cell_regrown b1
  have A2 := cell_regrown a2
  have B2 := cell_regrown b2
  have A3 := cell_regrown a3
  have B3 := cell_regrown b3
  have A4 := cell_regrown a4
  have B4 := cell_regrown b4
  have A5 := cell_regrown a5
  have B5 := cell_regrown b5
  have A6 := cell_regrown a6
  have B6 := cell_regrown b6
  have A7 := cell_regrown a7
  have B7 := cell_regrown b7
  have A8 := cell_regrown a8
  have B8 := cell_regrown b8
  have A9 := cell_regrown a9
  have B9 := cell_regrown b9
  clear n1 n2 n3 hW a0 a1 a2 a3 a4 a5 a6 a7 a8 a9 b0 b1 b2 b3 b4 b5 b6 b7 b8 b9
  have fb := bitsS t
  have fb' := bitsS t'
  go_enter Try.func20, Try.ntmps20
  go_wp2_with fail
  rw [← HW.out]
  refine Loose.wp_region_quiet_fast (by kernel_rfl) (by kernel_rfl) ?_
  (try simp only [List.append_eq, List.cons_append, List.nil_append])
  repeat (go_big_quiet_step (fail))
  refine wpQuiet_nil ?_
  intro _ hw'
  obtain ⟨⟨dq, osq⟩, hw''⟩ := hw'
  subst hw''
  go_wp2_with fail
  go_ret
  exact ⟨rfl, below_step N3.out (below_regrown _ dq osq)⟩

end Go.Proofs.Ytjkiofgllmjkcaa.G
