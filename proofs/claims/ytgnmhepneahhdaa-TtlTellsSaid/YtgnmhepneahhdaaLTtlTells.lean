/- TtlTells: whatever the numbers and the times, the law answers true. No condition. -/
import Derived.Test.YtgnmhepneahhdaaTl
import Derived.Test.YtgnmhepneahhdaaFu
import Derived.Test.YtgnmhepneahhdaaGOpn
import Derived.Test.YtgnmhepneahhdaaGFast
import Derived.BigQuiet
namespace Go.Proofs.Ytgnmhepneahhdaa.L
open Go.RowKit Go.Proofs.Ytgnmhepneahhdaa.G Go.Proofs.Ytgnmhepneahhdaa.WordPlain
set_option linter.unusedVariables false
set_option linter.unusedSimpArgs false

theorem below_step {w w1 w2 : World} (h : Below w.heap.size w w1) (k : Below w1.heap.size w1 w2) : Below w.heap.size w w2 :=
  h.trans (k.mono h.size)
theorem bel {P : Program} {f : FuncId} {a : Array Value} {w : World} {r : Value} (h : Calls P f a w fun e w' => e = .returned r ∧ w = w') : Calls P f a w fun e w' => e = .returned r ∧ Below w.heap.size w w' :=
  h.mono (fun e w1 h => ⟨h.1, by rw [← h.2]; exact Below.refl _ _⟩)

theorem open_times {w : World} {v : Value} (o : Row.Opn Try.prog w 25 v) : ∃ (a b n : Int), v = .agg #[.int .u64 a, .int .u64 b, .int .i64 n] ∧ (Lit.int .u64 a).wf = true ∧ (Lit.int .u64 b).wf = true ∧ (Lit.int .i64 n).wf = true := by
  obtain ⟨⟨m, ho⟩, b, hk⟩ := o
  have hu := Try.underlying25
  obtain ⟨hl, hf⟩ := Row.opn_struct ho hu
  simp only [Value.okWide] at hk
  rw [hu] at hk
  obtain ⟨cs, rfl, hsz, _⟩ := hk
  simp only [Value.cells] at hl hf
  have h4 : cs.toList.length = 3 := hl.trans (by kernel_rfl)
  have k1 : Try.prog.cellsOf 3 = 1 := by kernel_rfl
  have k2 : Try.prog.cellsOf 23 = 1 := by kernel_rfl
  obtain ⟨l, hcl⟩ : ∃ l, cs = l.toArray := ⟨cs.toList, by simp⟩
  subst hcl
  simp only [List.toList_toArray] at hf h4
  match l, h4 with
  | [x0, x1, x2], _ =>
    have f0 : Row.opn Try.prog w (m - 1) 23 [x0] := by
      have h : Row.opn Try.prog w (m - 1) 23 (([x0, x1, x2].drop 0).take (Try.prog.cellsOf 23)) := hf 0 _ rfl
      rw [k2] at h; exact h
    have f1 : Row.opn Try.prog w (m - 1) 23 [x1] := by
      have h : Row.opn Try.prog w (m - 1) 23 (([x0, x1, x2].drop 1).take (Try.prog.cellsOf 23)) := hf 1 _ rfl
      rw [k2] at h; exact h
    have f2 : Row.opn Try.prog w (m - 1) 3 [x2] := by
      have h : Row.opn Try.prog w (m - 1) 3 (([x0, x1, x2].drop 2).take (Try.prog.cellsOf 3)) := hf 2 _ rfl
      rw [k1] at h; exact h
    obtain ⟨z0, e0, w0⟩ := Row.opn_int f0 Try.underlying23
    obtain ⟨z1, e1, w1⟩ := Row.opn_int f1 Try.underlying23
    obtain ⟨z2, e2, w2⟩ := Row.opn_int f2 Try.underlying3
    cases e0; cases e1; cases e2
    exact ⟨z0, z1, z2, rfl, w0, w1, w2⟩

set_option maxRecDepth 100000 in
theorem rLeast_n (a b : Nat) (k : Int) (w : World) (h0 : (k == 0) = true) (hk : Hid (∀ w, Calls Try.prog 15 #[.float .f64 a] w fun e w' => e = .returned (.int .i64 k) ∧ w = w')) :
    Calls Try.prog 18 #[.float .f64 a, .float .f64 b] w fun e w' => e = .returned (.float .f64 b) ∧ w = w' := by
  go_enter Try.func18, Try.ntmps18
  go_wp2_with fail
  refine (hk.out _).mono ?_; rintro e w1 ⟨rfl, rfl⟩
  go_wp2_with fail
  go_ret
  exact ⟨rfl, rfl⟩

set_option maxRecDepth 100000 in
theorem rLeast_b (a b : Nat) (k : Int) (w : World) (h0 : (k == 0) = false) (o : (FloatKind.f64.format.order b a == some .lt) = true) (hk : Hid (∀ w, Calls Try.prog 15 #[.float .f64 a] w fun e w' => e = .returned (.int .i64 k) ∧ w = w')) :
    Calls Try.prog 18 #[.float .f64 a, .float .f64 b] w fun e w' => e = .returned (.float .f64 b) ∧ w = w' := by
  go_enter Try.func18, Try.ntmps18
  go_wp2_with fail
  refine (hk.out _).mono ?_; rintro e w1 ⟨rfl, rfl⟩
  go_wp2_with fail
  go_ret
  exact ⟨rfl, rfl⟩

set_option maxRecDepth 100000 in
theorem rLeast_a (a b : Nat) (k : Int) (w : World) (h0 : (k == 0) = false) (o : (FloatKind.f64.format.order b a == some .lt) = false) (hk : Hid (∀ w, Calls Try.prog 15 #[.float .f64 a] w fun e w' => e = .returned (.int .i64 k) ∧ w = w')) :
    Calls Try.prog 18 #[.float .f64 a, .float .f64 b] w fun e w' => e = .returned (.float .f64 a) ∧ w = w' := by
  go_enter Try.func18, Try.ntmps18
  go_wp2_with fail
  refine (hk.out _).mono ?_; rintro e w1 ⟨rfl, rfl⟩
  go_wp2_with fail
  go_ret
  exact ⟨rfl, rfl⟩

theorem least_both (a b : Nat) (ha : a < 18446744073709551616) (hb : b < 18446744073709551616) : ∃ z, z < 18446744073709551616 ∧ (∀ w, Calls Try.prog 17 #[.float .f64 a, .float .f64 b] w fun e w' => e = .returned (.float .f64 z) ∧ w = w') ∧
    (∀ w, Calls Try.prog 18 #[.float .f64 a, .float .f64 b] w fun e w' => e = .returned (.float .f64 z) ∧ w = w') := by
  have K := Lib.hid (fun W => Kind_val a W ha)
  have R := Lib.hid (fun W => rKind_val a W ha)
  rcases beq_tf (((F.kindB a : Nat) : Int) == 0) with h | h
  · exact ⟨b, hb, fun w => Least_n a b _ w h K, fun w => rLeast_n a b _ w h R⟩
  · rcases beq_tf (FloatKind.f64.format.order b a == some .lt) with o | o
    · exact ⟨b, hb, fun w => Least_b a b _ w h o K, fun w => rLeast_b a b _ w h o R⟩
    · exact ⟨a, ha, fun w => Least_a a b _ w h o K, fun w => rLeast_a a b _ w h o R⟩

set_option maxRecDepth 100000 in
theorem Same_val (z : Nat) (w : World) (hz : z < 18446744073709551616) : Calls Try.prog 16 #[.float .f64 z, .float .f64 z] w fun e w' => e = .returned (.bool true) ∧ w = w' := by
  have K := Lib.hid (fun W => rKind_val z W hz)
  have fb := bitsr z
  obtain ⟨k, hk⟩ : ∃ a : Int, a = (F.kindB z : Nat) := ⟨_, rfl⟩
  rw [← hk] at K
  clear hk hz
  rcases beq_tf (k == 0) with h | h
  · go_enter Try.func16, Try.ntmps16
    go_wp2_with fail
    refine (K.out _).mono ?_; rintro e w1 ⟨rfl, rfl⟩
    go_wp2_with fail
    refine (K.out _).mono ?_; rintro e w1 ⟨rfl, rfl⟩
    go_wp2_with fail
    go_ret
    exact ⟨rfl, rfl⟩
  · go_enter Try.func16, Try.ntmps16
    go_wp2_with fail
    refine (K.out _).mono ?_; rintro e w1 ⟨rfl, rfl⟩
    go_wp2_with fail
    go_ret
    exact ⟨rfl, rfl⟩

set_option maxRecDepth 100000 in
theorem rAdd1_val (a b z : Nat) (o : Bool) (w : World) (ha : a < 18446744073709551616) (hb : b < 18446744073709551616) (hz : Hid (z = addV a b)) (ho : Hid (o = addO a b)) :
    Calls Try.prog 31 #[.int .u64 a, .int .u64 b] w fun e w' => e = .returned (.tuple #[.int .u64 z, .bool o]) ∧ w = w' := by
  by_cases h : 18446744073709551616 ≤ a + b
  · have e1 : z = 18446744073709551615 := by rw [hz.out]; unfold addV; rw [if_pos h]
    have e2 : o = true := by rw [ho.out]; unfold addO; exact decide_eq_true h
    subst e2
    have E1 := Lib.hid e1
    have hm : IntKind.u64.wrap (18446744073709551615 - (b : Int)) = 18446744073709551615 - (b : Int) := IntWalk.u64_in _ (by omega)
    have hd : decide ((a : Int) > 18446744073709551615 - (b : Int)) = true := decide_eq_true (by omega)
    clear e1
    go_enter Try.func31, Try.ntmps31
    go_wp2_with fail
    refine (rmaxv _).mono ?_; rintro e w1 ⟨rfl, rfl⟩
    go_wp2_with fail
    refine (rmaxv _).mono ?_; rintro e w1 ⟨rfl, rfl⟩
    go_wp2_with fail
    go_ret2
    exact ⟨by rw [E1.out]; rfl, rfl⟩
  · have e1 : z = a + b := by rw [hz.out]; unfold addV; rw [if_neg h]
    have e2 : o = false := by rw [ho.out]; unfold addO; exact decide_eq_false h
    subst e2
    have E1 : Hid (z = z) := Lib.hid rfl
    have e3 : IntKind.u64.wrap ((a : Int) + (b : Int)) = (z : Int) := by
      rw [show (a : Int) + (b : Int) = (z : Int) from by omega]
      exact IntWalk.u64_in _ (by omega)
    clear e1
    have hm : IntKind.u64.wrap (18446744073709551615 - (b : Int)) = 18446744073709551615 - (b : Int) := IntWalk.u64_in _ (by omega)
    have hd : decide ((a : Int) > 18446744073709551615 - (b : Int)) = false := decide_eq_false (by omega)
    go_enter Try.func31, Try.ntmps31
    go_wp2_with fail
    refine (rmaxv _).mono ?_; rintro e w1 ⟨rfl, rfl⟩
    go_wp2_with fail
    go_ret2
    exact ⟨rfl, rfl⟩

set_option maxRecDepth 100000 in
theorem rLater_val (a b c : Nat) (w : World) (ha : a < 18446744073709551616) (hb : b < 18446744073709551616) (hc : Hid (c = addV a b)) :
    Calls Try.prog 20 #[.int .u64 a, .int .u64 b] w fun e w' => e = .returned (.int .u64 c) ∧ w = w' := by
  have AD := Lib.hid (fun W => rAdd1_val a b c (addO a b) W ha hb hc (Lib.hid rfl))
  clear ha hb hc
  go_enter Try.func20, Try.ntmps20
  go_wp2_with fail
  refine (AD.out _).mono ?_; rintro e w1 ⟨rfl, rfl⟩
  go_wp2_with fail
  go_ret
  exact ⟨rfl, rfl⟩

set_option maxRecDepth 100000 in
set_option maxHeartbeats 1000000 in
theorem tells_main (x y n m : Nat) (q : Int) (w : World) (hx : x < 18446744073709551616) (hy : y < 18446744073709551616) (hn : n < 18446744073709551616) (hm : m < 18446744073709551616) (hq : -9223372036854775808 ≤ q ∧ q ≤ 9223372036854775807) :
    Calls Try.prog 3 #[.float .f64 x, .float .f64 y, .agg #[.int .u64 n, .int .u64 m, .int .i64 q]] w fun e w' => e = .returned (.bool true) ∧ Below w.heap.size w w' := by
  obtain ⟨z, hz, L1, L2⟩ := least_both x y hx hy
  have L1 := Lib.hid L1
  have L2 := Lib.hid L2
  have SM := Lib.hid (fun W => Same_val z W hz)
  have T1 := Lib.hid (fun W => Ticks_val x W hx)
  have T2 := Lib.hid (fun W => rTicks_val x W hx)
  have K1 := Lib.hid (fun W => Kind_val x W hx)
  have K2 := Lib.hid (fun W => rKind_val x W hx)
  have S1 := Lib.hid (fun W => Share_val x q W hx hq)
  have S2 := Lib.hid (fun W => rShare_val x q W hx hq)
  have A1 := Lib.hid (fun W => Later_val n m (addV n m) W hn hm (Lib.hid rfl))
  have A2 := Lib.hid (fun W => rLater_val n m (addV n m) W hn hm (Lib.hid rfl))
  obtain ⟨a, ha⟩ : ∃ a, a = F.tickV x := ⟨_, rfl⟩
  obtain ⟨b, hb⟩ : ∃ a, a = F.tickE x := ⟨_, rfl⟩
  obtain ⟨k, hk⟩ : ∃ a, a = F.kindB x := ⟨_, rfl⟩
  obtain ⟨c, hc⟩ : ∃ a, a = F.shV x q := ⟨_, rfl⟩
  obtain ⟨d, hd⟩ : ∃ a, a = F.shE x q := ⟨_, rfl⟩
  obtain ⟨l, hl⟩ : ∃ a, a = addV n m := ⟨_, rfl⟩
  rw [← ha, ← hb] at T1 T2
  rw [← hk] at K1 K2
  rw [← hc, ← hd] at S1 S2
  rw [← hl] at A1 A2
  clear ha hb hk hc hd hl hx hy hn hm hq hz
  obtain ⟨W, hW⟩ : ∃ W, W = w.alloc (.cells #[.int .u64 n, .int .u64 m, .int .i64 q] 25) := ⟨_, rfl⟩
  have hb : Below w.heap.size w W := by rw [hW]; exact (Below.refl _ _).alloc (Nat.le_refl _) _
  have hn : W.heap[w.heap.size]? = some (.cells #[.int .u64 n, .int .u64 m, .int .i64 q] 25 (0, 0)) := by rw [hW]; exact heap_alloc_new _ _
  have b0 := cell_regrown ((cell_of_row _ _ 0 _ _ _ hn).trans (show _ = some (Value.int .u64 n) from rfl))
  have b1 := cell_regrown ((cell_of_row _ _ 1 _ _ _ hn).trans (show _ = some (Value.int .u64 m) from rfl))
  have d0 := (cell_of_row _ _ 0 _ _ _ hn).trans (show _ = some (Value.int .u64 n) from rfl)
  have d1 := (cell_of_row _ _ 1 _ _ _ hn).trans (show _ = some (Value.int .u64 m) from rfl)
  have d2 := (cell_of_row _ _ 2 _ _ _ hn).trans (show _ = some (Value.int .i64 q) from rfl)
  have HW := Lib.hid hW
  have HB := Lib.hid hb
  clear hW hb hn
  go_enter Try.func3, Try.ntmps3
  go_wp2_with fail
  rw [← HW.out]
  refine (T1.out _).mono ?_; rintro e w1 ⟨rfl, rfl⟩
  go_wp2_with fail
  refine (T2.out _).mono ?_; rintro e w1 ⟨rfl, rfl⟩
  go_wp2_with fail
  refine (S1.out _).mono ?_; rintro e w1 ⟨rfl, rfl⟩
  go_wp2_with fail
  refine (S2.out _).mono ?_; rintro e w1 ⟨rfl, rfl⟩
  go_wp2_with fail
  refine Loose.wp_region_quiet_fast (by kernel_rfl) (by kernel_rfl) ?_
  (try simp only [List.append_eq, List.cons_append, List.nil_append])
  repeat (go_big_quiet_step (fail))
  go_big_quiet_step ((go_at_call 14; exact Calls.regrown_of (bel (K1.out _))))
  repeat (go_big_quiet_step (fail))
  go_big_quiet_step ((go_at_call 15; exact Calls.regrown_of (bel (K2.out _))))
  repeat (go_big_quiet_step (fail))
  go_big_quiet_step ((go_at_call 17; exact Calls.regrown_of (bel (L1.out _))))
  repeat (go_big_quiet_step (fail))
  go_big_quiet_step ((go_at_call 18; exact Calls.regrown_of (bel (L2.out _))))
  repeat (go_big_quiet_step (fail))
  go_big_quiet_step ((go_at_call 16; exact Calls.regrown_of (bel (SM.out _))))
  repeat (go_big_quiet_step (fail))
  go_big_quiet_step ((go_at_call 19; exact Calls.regrown_of (bel (A1.out _))))
  repeat (go_big_quiet_step (fail))
  go_big_quiet_step ((go_at_call 20; exact Calls.regrown_of (bel (A2.out _))))
  repeat (go_big_quiet_step (fail))
  go_big_quiet_step ((go_at_call 21; exact Calls.regrown_of (bel (fixed_val _))))
  repeat (go_big_quiet_step (fail))
  refine wpQuiet_nil ?_
  intro _ hw'
  obtain ⟨⟨dq, osq⟩, hw''⟩ := hw'
  subst hw''
  go_wp2_with fail
  go_ret
  exact ⟨rfl, below_step HB.out (below_regrown _ dq osq)⟩

theorem TtlTells_walk (a0 a1 : Nat) (v2 : Value) (w : World) (w0 : (Lit.float .f64 a0).wf = true) (w1 : (Lit.float .f64 a1).wf = true) (o2 : Row.Opn Try.prog w 25 v2) :
    Calls Try.prog 3 #[.float .f64 a0, .float .f64 a1, v2] w fun e w' => e = .returned (.bool true) ∧ Below w.heap.size w w' := by
  have w0 : a0 < 18446744073709551616 := by simpa [Lit.wf] using w0
  have w1 : a1 < 18446744073709551616 := by simpa [Lit.wf] using w1
  obtain ⟨a, b, n, rfl, ha, hb, hn⟩ := open_times o2
  obtain ⟨c, rfl, hc⟩ := u64_wf _ ha
  obtain ⟨d, rfl, hd⟩ := u64_wf _ hb
  have h : IntKind.i64.min ≤ n ∧ n ≤ IntKind.i64.max := by simpa only [Lit.wf, Bool.and_eq_true, decide_eq_true_eq] using hn
  have e1 : IntKind.i64.min = -9223372036854775808 := by decide
  have e2 : IntKind.i64.max = 9223372036854775807 := by decide
  rw [e1, e2] at h
  exact tells_main a0 a1 c d n w w0 w1 hc hd h
end Go.Proofs.Ytgnmhepneahhdaa.L
