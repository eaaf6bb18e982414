/- A text's bytes, an act's bytes: script.text, script.bytes. -/
import Derived.Test.YtjkiofgllmjkcaaS4
import Derived.Test.YtjkiofgllmjkcaaSn
import Derived.Test.YtjkiofgllmjkcaaGFast
import Derived.BigQuiet
namespace Go.Proofs.Ytjkiofgllmjkcaa.G
open Go.RowKit Go.Proofs.Ytjkiofgllmjkcaa.WordPlain
set_option linter.unusedVariables false
set_option linter.unusedSimpArgs false

theorem u64S (n : Nat) (h : n < 18446744073709551616) : IntKind.u64.wrap (n : Int) = (n : Int) := by show (n : Int) % 18446744073709551616 = _; omega
set_option maxRecDepth 100000 in
theorem text_val (s : ByteArray) (w : World) (z : ByteArray) (hs : s.size ≤ 140737488351232) (hz : Hid (z = txt s)) :
    Calls Try.prog 41 #[.string s] w fun e w' => e = .returned (.string z) ∧ Below w.heap.size w w' := by
  obtain ⟨y, hy⟩ : ∃ y, y = wput s.size 1 := ⟨_, rfl⟩
  have HP := Lib.hid (fun W => Put_val s.size 1 W y (by omega) (Lib.hid (by rw [hy]; rfl)))
  have q : IntKind.u64.wrap (s.size : Int) = (s.size : Int) := u64S _ (by omega)
  have hsz : y.size = 1 := by rw [hy, wput_size]
  have q2 : (9223372036854775807 < y.size + s.size) = False := eq_false (by omega)
  have e : z = y ++ s := by rw [hz.out, hy]; rfl
  subst e
  clear hs hsz hy hz
  go_enter Try.func41, Try.ntmps41
  go_wp2_with fail
  refine (HP.out _).mono ?_; rintro e w1 ⟨rfl, hb⟩
  go_wp2_with fail
  go_ret
  exact ⟨rfl, hb⟩

set_option maxRecDepth 100000 in
set_option maxHeartbeats 2000000 in
theorem bytes_1 (k rk p to pl : Int) (i v : ByteArray) (t n m cap : Nat) (oa : Option Addr) (w : World) (zk : ByteArray) (hk : IntKind.u64.wrap k = k) (HK : (Hid (∀ W, Calls Try.prog 40 #[.int .u64 k, .int .i64 1] W fun e w' => e = .returned (.string zk) ∧ Below W.heap.size W w'))) (k0 : (k == 0) = false) (k1 : (k == 1) = true) (zn : ByteArray) (HN : (Hid (∀ W, Calls Try.prog 40 #[.int .u64 (n : Int), .int .i64 8] W fun e w' => e = .returned (.string zn) ∧ Below W.heap.size W w'))) (q : (9223372036854775807 < zk.size + zn.size) = False) :
    Calls Try.prog 24 #[.agg #[.int .i64 k, .int .i64 rk, .string i, .string v, .float .f64 t, .int .i64 p, .int .u64 n, .slice oa m cap, .int .i64 to, .int .i64 pl]] w fun e w' => e = .returned (.string (zk ++ zn)) ∧ Below w.heap.size w w' := by
  have n1 := heap_alloc_new w (.cells #[.int .i64 k, .int .i64 rk, .string i, .string v, .float .f64 t, .int .i64 p, .int .u64 n, .slice oa m cap, .int .i64 to, .int .i64 pl] 29)
  have n3 := (Below.refl w.heap.size w).alloc (Nat.le_refl _) (.cells #[.int .i64 k, .int .i64 rk, .string i, .string v, .float .f64 t, .int .i64 p, .int .u64 n, .slice oa m cap, .int .i64 to, .int .i64 pl] 29)
  obtain ⟨W, hW⟩ : ∃ W, W = w.alloc (.cells #[.int .i64 k, .int .i64 rk, .string i, .string v, .float .f64 t, .int .i64 p, .int .u64 n, .slice oa m cap, .int .i64 to, .int .i64 pl] 29) := ⟨_, rfl⟩
  rw [← hW] at n1 n3
  have HW := Lib.hid hW
  have RA : Hid (∀ V, Below W.heap.size W V → V.heap[w.heap.size]? = some (.cells #[.int .i64 k, .int .i64 rk, .string i, .string v, .float .f64 t, .int .i64 p, .int .u64 n, .slice oa m cap, .int .i64 to, .int .i64 pl] 29 (0, 0))) := Lib.hid (fun V h => (h.block _ (lt_of_rowS n1)).trans n1)
  have N3 := Lib.hid n3
  obtain ⟨a0, a1, a2, a3, a4, a5, a6, a7, a8, a9⟩ := cells10 n1
  clear n1 n3 hW
  go_enter Try.func24, Try.ntmps24
  go_wp2_with fail
  rw [← HW.out]
  refine (HK.out _).mono ?_; rintro e w1 ⟨rfl, h1⟩
  clear a0 a1 a2 a3 a4 a5 a6 a7 a8 a9
  obtain ⟨a0, a1, a2, a3, a4, a5, a6, a7, a8, a9⟩ := cells10 (RA.out _ h1)
  go_wp2_with fail
  refine (HN.out _).mono ?_; rintro e w2 ⟨rfl, h2⟩
  go_wp2_with fail
  go_ret
  exact ⟨rfl, below_step N3.out (below_step h1 h2)⟩
set_option maxRecDepth 100000 in
set_option maxHeartbeats 2000000 in
theorem bytes_2 (k rk p to pl : Int) (i v : ByteArray) (t n m cap : Nat) (oa : Option Addr) (w : World) (zk : ByteArray) (hk : IntKind.u64.wrap k = k) (HK : (Hid (∀ W, Calls Try.prog 40 #[.int .u64 k, .int .i64 1] W fun e w' => e = .returned (.string zk) ∧ Below W.heap.size W w'))) (k0 : (k == 0) = false) (k1 : (k == 1) = false) (k2 : (k == 2) = true) (zn : ByteArray) (HN : (Hid (∀ W, Calls Try.prog 40 #[.int .u64 (n : Int), .int .i64 1] W fun e w' => e = .returned (.string zn) ∧ Below W.heap.size W w'))) (q : (9223372036854775807 < zk.size + zn.size) = False) :
    Calls Try.prog 24 #[.agg #[.int .i64 k, .int .i64 rk, .string i, .string v, .float .f64 t, .int .i64 p, .int .u64 n, .slice oa m cap, .int .i64 to, .int .i64 pl]] w fun e w' => e = .returned (.string (zk ++ zn)) ∧ Below w.heap.size w w' := by
  have n1 := heap_alloc_new w (.cells #[.int .i64 k, .int .i64 rk, .string i, .string v, .float .f64 t, .int .i64 p, .int .u64 n, .slice oa m cap, .int .i64 to, .int .i64 pl] 29)
  have n3 := (Below.refl w.heap.size w).alloc (Nat.le_refl _) (.cells #[.int .i64 k, .int .i64 rk, .string i, .string v, .float .f64 t, .int .i64 p, .int .u64 n, .slice oa m cap, .int .i64 to, .int .i64 pl] 29)
  obtain ⟨W, hW⟩ : ∃ W, W = w.alloc (.cells #[.int .i64 k, .int .i64 rk, .string i, .string v, .float .f64 t, .int .i64 p, .int .u64 n, .slice oa m cap, .int .i64 to, .int .i64 pl] 29) := ⟨_, rfl⟩
  rw [← hW] at n1 n3
  have HW := Lib.hid hW
  have RA : Hid (∀ V, Below W.heap.size W V → V.heap[w.heap.size]? = some (.cells #[.int .i64 k, .int .i64 rk, .string i, .string v, .float .f64 t, .int .i64 p, .int .u64 n, .slice oa m cap, .int .i64 to, .int .i64 pl] 29 (0, 0))) := Lib.hid (fun V h => (h.block _ (lt_of_rowS n1)).trans n1)
  have N3 := Lib.hid n3
  obtain ⟨a0, a1, a2, a3, a4, a5, a6, a7, a8, a9⟩ := cells10 n1
  clear n1 n3 hW
  go_enter Try.func24, Try.ntmps24
  go_wp2_with fail
  rw [← HW.out]
  refine (HK.out _).mono ?_; rintro e w1 ⟨rfl, h1⟩
  clear a0 a1 a2 a3 a4 a5 a6 a7 a8 a9
  obtain ⟨a0, a1, a2, a3, a4, a5, a6, a7, a8, a9⟩ := cells10 (RA.out _ h1)
  go_wp2_with fail
  refine (HN.out _).mono ?_; rintro e w2 ⟨rfl, h2⟩
  go_wp2_with fail
  go_ret
  exact ⟨rfl, below_step N3.out (below_step h1 h2)⟩
set_option maxRecDepth 100000 in
set_option maxHeartbeats 2000000 in
theorem bytes_4 (k rk p to pl : Int) (i v : ByteArray) (t n m cap : Nat) (oa : Option Addr) (w : World) (zk : ByteArray) (hk : IntKind.u64.wrap k = k) (HK : (Hid (∀ W, Calls Try.prog 40 #[.int .u64 k, .int .i64 1] W fun e w' => e = .returned (.string zk) ∧ Below W.heap.size W w'))) (k0 : (k == 0) = false) (k1 : (k == 1) = false) (k2 : (k == 2) = false) (k4 : (k == 4) = true) (zn : ByteArray) (HN : (Hid (∀ W, Calls Try.prog 40 #[.int .u64 (n : Int), .int .i64 2] W fun e w' => e = .returned (.string zn) ∧ Below W.heap.size W w'))) (q : (9223372036854775807 < zk.size + zn.size) = False) :
    Calls Try.prog 24 #[.agg #[.int .i64 k, .int .i64 rk, .string i, .string v, .float .f64 t, .int .i64 p, .int .u64 n, .slice oa m cap, .int .i64 to, .int .i64 pl]] w fun e w' => e = .returned (.string (zk ++ zn)) ∧ Below w.heap.size w w' := by
  have n1 := heap_alloc_new w (.cells #[.int .i64 k, .int .i64 rk, .string i, .string v, .float .f64 t, .int .i64 p, .int .u64 n, .slice oa m cap, .int .i64 to, .int .i64 pl] 29)
  have n3 := (Below.refl w.heap.size w).alloc (Nat.le_refl _) (.cells #[.int .i64 k, .int .i64 rk, .string i, .string v, .float .f64 t, .int .i64 p, .int .u64 n, .slice oa m cap, .int .i64 to, .int .i64 pl] 29)
  obtain ⟨W, hW⟩ : ∃ W, W = w.alloc (.cells #[.int .i64 k, .int .i64 rk, .string i, .string v, .float .f64 t, .int .i64 p, .int .u64 n, .slice oa m cap, .int .i64 to, .int .i64 pl] 29) := ⟨_, rfl⟩
  rw [← hW] at n1 n3
  have HW := Lib.hid hW
  have RA : Hid (∀ V, Below W.heap.size W V → V.heap[w.heap.size]? = some (.cells #[.int .i64 k, .int .i64 rk, .string i, .string v, .float .f64 t, .int .i64 p, .int .u64 n, .slice oa m cap, .int .i64 to, .int .i64 pl] 29 (0, 0))) := Lib.hid (fun V h => (h.block _ (lt_of_rowS n1)).trans n1)
  have N3 := Lib.hid n3
  obtain ⟨a0, a1, a2, a3, a4, a5, a6, a7, a8, a9⟩ := cells10 n1
  clear n1 n3 hW
  go_enter Try.func24, Try.ntmps24
  go_wp2_with fail
  rw [← HW.out]
  refine (HK.out _).mono ?_; rintro e w1 ⟨rfl, h1⟩
  clear a0 a1 a2 a3 a4 a5 a6 a7 a8 a9
  obtain ⟨a0, a1, a2, a3, a4, a5, a6, a7, a8, a9⟩ := cells10 (RA.out _ h1)
  go_wp2_with fail
  refine (HN.out _).mono ?_; rintro e w2 ⟨rfl, h2⟩
  go_wp2_with fail
  go_ret
  exact ⟨rfl, below_step N3.out (below_step h1 h2)⟩
set_option maxRecDepth 100000 in
set_option maxHeartbeats 2000000 in
theorem bytes_x (k rk p to pl : Int) (i v : ByteArray) (t n m cap : Nat) (oa : Option Addr) (w : World) (zk : ByteArray) (hk : IntKind.u64.wrap k = k) (HK : (Hid (∀ W, Calls Try.prog 40 #[.int .u64 k, .int .i64 1] W fun e w' => e = .returned (.string zk) ∧ Below W.heap.size W w'))) (k0 : (k == 0) = false) (k1 : (k == 1) = false) (k2 : (k == 2) = false) (k4 : (k == 4) = false) (k5 : (k == 5) = false) :
    Calls Try.prog 24 #[.agg #[.int .i64 k, .int .i64 rk, .string i, .string v, .float .f64 t, .int .i64 p, .int .u64 n, .slice oa m cap, .int .i64 to, .int .i64 pl]] w fun e w' => e = .returned (.string (zk)) ∧ Below w.heap.size w w' := by
  have n1 := heap_alloc_new w (.cells #[.int .i64 k, .int .i64 rk, .string i, .string v, .float .f64 t, .int .i64 p, .int .u64 n, .slice oa m cap, .int .i64 to, .int .i64 pl] 29)
  have n3 := (Below.refl w.heap.size w).alloc (Nat.le_refl _) (.cells #[.int .i64 k, .int .i64 rk, .string i, .string v, .float .f64 t, .int .i64 p, .int .u64 n, .slice oa m cap, .int .i64 to, .int .i64 pl] 29)
  obtain ⟨W, hW⟩ : ∃ W, W = w.alloc (.cells #[.int .i64 k, .int .i64 rk, .string i, .string v, .float .f64 t, .int .i64 p, .int .u64 n, .slice oa m cap, .int .i64 to, .int .i64 pl] 29) := ⟨_, rfl⟩
  rw [← hW] at n1 n3
  have HW := Lib.hid hW
  have RA : Hid (∀ V, Below W.heap.size W V → V.heap[w.heap.size]? = some (.cells #[.int .i64 k, .int .i64 rk, .string i, .string v, .float .f64 t, .int .i64 p, .int .u64 n, .slice oa m cap, .int .i64 to, .int .i64 pl] 29 (0, 0))) := Lib.hid (fun V h => (h.block _ (lt_of_rowS n1)).trans n1)
  have N3 := Lib.hid n3
  obtain ⟨a0, a1, a2, a3, a4, a5, a6, a7, a8, a9⟩ := cells10 n1
  clear n1 n3 hW
  go_enter Try.func24, Try.ntmps24
  go_wp2_with fail
  rw [← HW.out]
  refine (HK.out _).mono ?_; rintro e w1 ⟨rfl, h1⟩
  clear a0 a1 a2 a3 a4 a5 a6 a7 a8 a9
  obtain ⟨a0, a1, a2, a3, a4, a5, a6, a7, a8, a9⟩ := cells10 (RA.out _ h1)
  go_wp2_with fail
  go_ret
  exact ⟨rfl, below_step N3.out h1⟩
set_option maxRecDepth 100000 in
set_option maxHeartbeats 2000000 in
theorem bytes_0 (k rk p to pl : Int) (i v : ByteArray) (t n m cap : Nat) (oa : Option Addr) (w : World) (zk : ByteArray) (hk : IntKind.u64.wrap k = k) (HK : (Hid (∀ W, Calls Try.prog 40 #[.int .u64 k, .int .i64 1] W fun e w' => e = .returned (.string zk) ∧ Below W.heap.size W w'))) (k0 : (k == 0) = true) (zr zi zv zt zp : ByteArray) (hrk : IntKind.u64.wrap rk = rk) (hp : IntKind.u64.wrap p = p) (HR : (Hid (∀ W, Calls Try.prog 40 #[.int .u64 rk, .int .i64 1] W fun e w' => e = .returned (.string zr) ∧ Below W.heap.size W w'))) (HI : (Hid (∀ W, Calls Try.prog 41 #[.string i] W fun e w' => e = .returned (.string zi) ∧ Below W.heap.size W w'))) (HV : (Hid (∀ W, Calls Try.prog 41 #[.string v] W fun e w' => e = .returned (.string zv) ∧ Below W.heap.size W w'))) (HT : (Hid (∀ W, Calls Try.prog 40 #[.int .u64 (t : Int), .int .i64 8] W fun e w' => e = .returned (.string zt) ∧ Below W.heap.size W w'))) (HP : (Hid (∀ W, Calls Try.prog 40 #[.int .u64 p, .int .i64 1] W fun e w' => e = .returned (.string zp) ∧ Below W.heap.size W w'))) (q1 : (9223372036854775807 < zr.size + zi.size) = False) (q2 : (9223372036854775807 < zr.size + zi.size + zv.size) = False) (q3 : (9223372036854775807 < zr.size + zi.size + zv.size + zt.size) = False) (q4 : (9223372036854775807 < zr.size + zi.size + zv.size + zt.size + zp.size) = False) (q5 : (9223372036854775807 < zk.size + (zr.size + zi.size + zv.size + zt.size + zp.size)) = False) :
    Calls Try.prog 24 #[.agg #[.int .i64 k, .int .i64 rk, .string i, .string v, .float .f64 t, .int .i64 p, .int .u64 n, .slice oa m cap, .int .i64 to, .int .i64 pl]] w fun e w' => e = .returned (.string (zk ++ ((((zr ++ zi) ++ zv) ++ zt) ++ zp))) ∧ Below w.heap.size w w' := by
  have n1 := heap_alloc_new w (.cells #[.int .i64 k, .int .i64 rk, .string i, .string v, .float .f64 t, .int .i64 p, .int .u64 n, .slice oa m cap, .int .i64 to, .int .i64 pl] 29)
  have n3 := (Below.refl w.heap.size w).alloc (Nat.le_refl _) (.cells #[.int .i64 k, .int .i64 rk, .string i, .string v, .float .f64 t, .int .i64 p, .int .u64 n, .slice oa m cap, .int .i64 to, .int .i64 pl] 29)
  obtain ⟨W, hW⟩ : ∃ W, W = w.alloc (.cells #[.int .i64 k, .int .i64 rk, .string i, .string v, .float .f64 t, .int .i64 p, .int .u64 n, .slice oa m cap, .int .i64 to, .int .i64 pl] 29) := ⟨_, rfl⟩
  rw [← hW] at n1 n3
  have HW := Lib.hid hW
  have RA : Hid (∀ V, Below W.heap.size W V → V.heap[w.heap.size]? = some (.cells #[.int .i64 k, .int .i64 rk, .string i, .string v, .float .f64 t, .int .i64 p, .int .u64 n, .slice oa m cap, .int .i64 to, .int .i64 pl] 29 (0, 0))) := Lib.hid (fun V h => (h.block _ (lt_of_rowS n1)).trans n1)
  have N3 := Lib.hid n3
  obtain ⟨a0, a1, a2, a3, a4, a5, a6, a7, a8, a9⟩ := cells10 n1
  clear n1 n3 hW
  go_enter Try.func24, Try.ntmps24
  go_wp2_with fail
  rw [← HW.out]
  refine (HK.out _).mono ?_; rintro e w1 ⟨rfl, h1⟩
  clear a0 a1 a2 a3 a4 a5 a6 a7 a8 a9
  obtain ⟨a0, a1, a2, a3, a4, a5, a6, a7, a8, a9⟩ := cells10 (RA.out _ h1)
  have A0 := cell_regrown a0
  have A1 := cell_regrown a1
  have A2 := cell_regrown a2
  have A3 := cell_regrown a3
  have A4 := cell_regrown a4
  have A5 := cell_regrown a5
  have A6 := cell_regrown a6
  have A7 := cell_regrown a7
  have A8 := cell_regrown a8
  have A9 := cell_regrown a9
  have fb := bitsS t
  go_wp2_with fail
  refine Loose.wp_region_quiet_fast (by kernel_rfl) (by kernel_rfl) ?_
  (try simp only [List.append_eq, List.cons_append, List.nil_append])
  repeat (go_big_quiet_step (fail))
  go_big_quiet_step ((go_at_call 40; exact Calls.regrown_of (HR.out _)))
  repeat (go_big_quiet_step (fail))
  go_big_quiet_step ((go_at_call 41; exact Calls.regrown_of (HI.out _)))
  repeat (go_big_quiet_step (fail))
  go_big_quiet_step ((go_at_call 41; exact Calls.regrown_of (HV.out _)))
  repeat (go_big_quiet_step (fail))
  go_big_quiet_step ((go_at_call 40; exact Calls.regrown_of (HT.out _)))
  repeat (go_big_quiet_step (fail))
  go_big_quiet_step ((go_at_call 40; exact Calls.regrown_of (HP.out _)))
  repeat (go_big_quiet_step (fail))
  refine wpQuiet_nil ?_
  intro _ hw'
  obtain ⟨⟨dq, osq⟩, hw''⟩ := hw'
  subst hw''
  go_wp2_with fail
  go_ret
  exact ⟨rfl, below_step N3.out (below_step h1 (below_regrown _ dq osq))⟩
end Go.Proofs.Ytjkiofgllmjkcaa.G
