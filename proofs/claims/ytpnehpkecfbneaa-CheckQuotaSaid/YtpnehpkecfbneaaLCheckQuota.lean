/- CheckQuota: whatever the conf and the other share, the law answers true. No condition. -/
import Derived.Test.YtpnehpkecfbneaaHr
import Derived.Test.YtpnehpkecfbneaaGOpn
import Derived.Test.YtpnehpkecfbneaaGFast
import Derived.BigQuiet
namespace Go.Proofs.Ytpnehpkecfbneaa.L
open Go.RowKit Go.Proofs.Ytpnehpkecfbneaa.G
set_option linter.unusedVariables false
set_option linter.unusedSimpArgs false

theorem bel {P : Program} {f : FuncId} {a : Array Value} {w : World} {r : Value} (h : Calls P f a w fun e w' => e = .returned r ∧ w = w') : Calls P f a w fun e w' => e = .returned r ∧ Below w.heap.size w w' :=
  h.mono (fun e w1 h => ⟨h.1, by rw [← h.2]; exact Below.refl _ _⟩)
theorem open_conf {w : World} {v : Value} (o : Row.Opn Try.prog w 24 v) : ∃ (s n r : Int) (x : Nat), v = .agg #[.int .i64 s, .int .i64 n, .float .f64 x, .int .i64 r] ∧ x < 18446744073709551616 := by
  obtain ⟨⟨m, ho⟩, b, hk⟩ := o
  have hu := Try.underlying24
  obtain ⟨hl, hf⟩ := Row.opn_struct ho hu
  simp only [Value.okWide] at hk
  rw [hu] at hk
  obtain ⟨cs, rfl, hsz, _⟩ := hk
  simp only [Value.cells] at hl hf
  have h4 : cs.toList.length = 4 := hl.trans (by kernel_rfl)
  have k1 : Try.prog.cellsOf 3 = 1 := by kernel_rfl
  have k2 : Try.prog.cellsOf 22 = 1 := by kernel_rfl
  obtain ⟨l, hcl⟩ : ∃ l, cs = l.toArray := ⟨cs.toList, by simp⟩
  subst hcl
  simp only [List.toList_toArray] at hf h4
  match l, h4 with
  | [x0, x1, x2, x3], _ =>
    have f0 : Row.opn Try.prog w (m - 1) 3 [x0] := by
      have h : Row.opn Try.prog w (m - 1) 3 (([x0, x1, x2, x3].drop 0).take (Try.prog.cellsOf 3)) := hf 0 _ rfl
      rw [k1] at h; exact h
    have f1 : Row.opn Try.prog w (m - 1) 3 [x1] := by
      have h : Row.opn Try.prog w (m - 1) 3 (([x0, x1, x2, x3].drop 1).take (Try.prog.cellsOf 3)) := hf 1 _ rfl
      rw [k1] at h; exact h
    have f2 : Row.opn Try.prog w (m - 1) 22 [x2] := by
      have h : Row.opn Try.prog w (m - 1) 22 (([x0, x1, x2, x3].drop 2).take (Try.prog.cellsOf 22)) := hf 2 _ rfl
      rw [k2] at h; exact h
    have f3 : Row.opn Try.prog w (m - 1) 3 [x3] := by
      have h : Row.opn Try.prog w (m - 1) 3 (([x0, x1, x2, x3].drop 3).take (Try.prog.cellsOf 3)) := hf 3 _ rfl
      rw [k1] at h; exact h
    obtain ⟨z0, e0, _⟩ := Row.opn_int f0 Try.underlying3
    obtain ⟨z1, e1, _⟩ := Row.opn_int f1 Try.underlying3
    obtain ⟨z2, e2, w2⟩ := Row.opn_float f2 Try.underlying22
    obtain ⟨z3, e3, _⟩ := Row.opn_int f3 Try.underlying3
    cases e0; cases e1; cases e2; cases e3
    refine ⟨z0, z1, z3, z2, rfl, ?_⟩
    simpa [Lit.wf] using w2

theorem two_new' (w : World) (o1 o2 : Obj) : ((w.alloc o1).alloc o2).heap[w.heap.size]? = some o1 ∧ ((w.alloc o1).alloc o2).heap[w.heap.size + 1]? = some o2 ∧ Below w.heap.size w ((w.alloc o1).alloc o2) := by
  have hs : (w.alloc o1).heap.size = w.heap.size + 1 := by show (w.heap.push o1).size = _; rw [Array.size_push]
  have hn2 := heap_alloc_new (w.alloc o1) o2
  rw [hs] at hn2
  refine ⟨?_, hn2, ((Below.refl _ _).alloc (Nat.le_refl _) _).alloc (by rw [hs]; omega) _⟩
  rw [heap_alloc_old _ _ (by rw [hs]; omega)]; exact heap_alloc_new w o1


theorem store_float (a : Addr) (k : Nat) (m : Mode) (W : World) : (store a (.float .f64 k) m).run Try.prog W = stored Try.prog W a (.float .f64 k) m := run_store _ W a _ m rfl
/-- the worlds of the three rows: a conf, one with another share, one with all -/
theorem rows3 (s n r : Int) (x0 x : Nat) (w : World) : ∃ W1 W4 : World,
    W1.heap.size = w.heap.size + 2 ∧
    ((w.alloc (.cells #[.int .i64 s, .int .i64 n, .float .f64 x0, .int .i64 r] 24)).alloc (.cells #[.int .i64 0, .int .i64 0, .float .f64 0, .int .i64 0] 24)).heap[w.heap.size + 1]? = some (.cells #[.int .i64 0, .int .i64 0, .float .f64 0, .int .i64 0] 24 (0, 0)) ∧
    ((w.alloc (.cells #[.int .i64 s, .int .i64 n, .float .f64 x0, .int .i64 r] 24)).alloc (.cells #[.int .i64 0, .int .i64 0, .float .f64 0, .int .i64 0] 24)).setRow (w.heap.size + 1) #[.int .i64 s, .int .i64 n, .float .f64 x0, .int .i64 r] = W1 ∧
    W1.heap[w.heap.size]? = some (.cells #[.int .i64 s, .int .i64 n, .float .f64 x0, .int .i64 r] 24 (0, 0)) ∧ W1.heap[w.heap.size + 1]? = some (.cells #[.int .i64 s, .int .i64 n, .float .f64 x0, .int .i64 r] 24 (0, 0)) ∧
    W4 = (W1.setCell ⟨w.heap.size + 1, 2, none⟩ (.float .f64 x)).alloc (.cells #[.int .i64 s, .int .i64 n, .float .f64 4607182418800017408, .int .i64 r] 24) ∧
    W4.heap[w.heap.size]? = some (.cells #[.int .i64 s, .int .i64 n, .float .f64 x0, .int .i64 r] 24 (0, 0)) ∧ W4.heap[w.heap.size + 1]? = some (.cells #[.int .i64 s, .int .i64 n, .float .f64 x, .int .i64 r] 24 (0, 0)) ∧ W4.heap[w.heap.size + 2]? = some (.cells #[.int .i64 s, .int .i64 n, .float .f64 4607182418800017408, .int .i64 r] 24 (0, 0)) ∧
    Below w.heap.size w W4 := by
  obtain ⟨pa, pd, pb⟩ := two_new' w (.cells #[.int .i64 s, .int .i64 n, .float .f64 x0, .int .i64 r] 24) (.cells #[.int .i64 s, .int .i64 n, .float .f64 x0, .int .i64 r] 24)
  have hs1 : (w.alloc (.cells #[.int .i64 s, .int .i64 n, .float .f64 x0, .int .i64 r] 24)).heap.size = w.heap.size + 1 := by show (w.heap.push _).size = _; rw [Array.size_push]
  have r2 := heap_alloc_new (w.alloc (.cells #[.int .i64 s, .int .i64 n, .float .f64 x0, .int .i64 r] 24)) (.cells #[.int .i64 0, .int .i64 0, .float .f64 0, .int .i64 0] 24)
  have e2 := World.setRow_alloc_new (w.alloc (.cells #[.int .i64 s, .int .i64 n, .float .f64 x0, .int .i64 r] 24)) #[.int .i64 0, .int .i64 0, .float .f64 0, .int .i64 0] #[.int .i64 s, .int .i64 n, .float .f64 x0, .int .i64 r] 24
  rw [hs1] at r2 e2
  have hs2 : ((w.alloc (.cells #[.int .i64 s, .int .i64 n, .float .f64 x0, .int .i64 r] 24)).alloc (.cells #[.int .i64 s, .int .i64 n, .float .f64 x0, .int .i64 r] 24)).heap.size = w.heap.size + 2 := by show ((w.alloc (.cells #[.int .i64 s, .int .i64 n, .float .f64 x0, .int .i64 r] 24)).heap.push _).size = _; rw [Array.size_push, hs1]
  obtain ⟨W1, hW1⟩ : ∃ V0, V0 = (w.alloc (.cells #[.int .i64 s, .int .i64 n, .float .f64 x0, .int .i64 r] 24)).alloc (.cells #[.int .i64 s, .int .i64 n, .float .f64 x0, .int .i64 r] 24) := ⟨_, rfl⟩
  rw [← hW1] at pa pd pb e2 hs2
  obtain ⟨W2, hW2⟩ : ∃ V0, V0 = W1.setCell ⟨w.heap.size + 1, 2, none⟩ (.float .f64 x) := ⟨_, rfl⟩
  have pb2 : Below w.heap.size w W2 := by rw [hW2]; exact pb.setCell (by show w.heap.size ≤ w.heap.size + 1; omega) _
  have pd2 : W2.heap[w.heap.size + 1]? = some (.cells #[.int .i64 s, .int .i64 n, .float .f64 x, .int .i64 r] 24 (0, 0)) := by rw [hW2, heap_setCell_same _ _ _ _ _ _ pd]; rfl
  have pa2 : W2.heap[w.heap.size]? = some (.cells #[.int .i64 s, .int .i64 n, .float .f64 x0, .int .i64 r] 24 (0, 0)) := by rw [hW2, heap_setCell_other _ _ _ _ (by show w.heap.size ≠ w.heap.size + 1; omega)]; exact pa
  have hz2 : W2.heap.size = w.heap.size + 2 := by rw [hW2]; unfold World.setCell; simp [hs2]
  have n3 := heap_alloc_new W2 (.cells #[.int .i64 s, .int .i64 n, .float .f64 4607182418800017408, .int .i64 r] 24)
  have o30 := (heap_alloc_old W2 (.cells #[.int .i64 s, .int .i64 n, .float .f64 4607182418800017408, .int .i64 r] 24) (show w.heap.size < W2.heap.size by omega)).trans pa2
  have o31 := (heap_alloc_old W2 (.cells #[.int .i64 s, .int .i64 n, .float .f64 4607182418800017408, .int .i64 r] 24) (show w.heap.size + 1 < W2.heap.size by omega)).trans pd2
  rw [hz2] at n3
  rw [hW2] at n3 o30 o31
  exact ⟨W1, _, hs2, r2, e2, pa, pd, rfl, o30, o31, n3, by rw [← hW2]; exact pb2.alloc pb2.size _⟩

set_option maxRecDepth 100000 in
set_option maxHeartbeats 2000000 in
theorem quota_a (s n r : Int) (x0 x : Nat) (w : World) (HC : Hid (∀ W, Calls Try.prog 12 #[.agg #[.int .i64 s, .int .i64 n, .float .f64 x0, .int .i64 r]] W fun e w' => e = .returned (.int .i64 1) ∧ Below W.heap.size W w')) (HS : Hid (∀ W, Calls Try.prog 14 #[.agg #[.int .i64 s, .int .i64 n, .float .f64 x0, .int .i64 r]] W fun e w' => e = .returned (.int .i64 0) ∧ Below W.heap.size W w')) (HQ : Hid (∀ W, Calls Try.prog 16 #[.agg #[.int .i64 s, .int .i64 n, .float .f64 x0, .int .i64 r]] W fun e w' => e = .returned (.int .i64 0) ∧ Below W.heap.size W w')) (HB : Hid (∀ W, Calls Try.prog 18 #[.agg #[.int .i64 s, .int .i64 n, .float .f64 x0, .int .i64 r]] W fun e w' => e = .returned (.int .i64 0) ∧ Below W.heap.size W w')) :
    Calls Try.prog 5 #[.agg #[.int .i64 s, .int .i64 n, .float .f64 x0, .int .i64 r], .float .f64 x] w fun e w' => e = .returned (.bool true) ∧ Below w.heap.size w w' := by
  have sf := store_float
  obtain ⟨W1, W4, s1, r2, e2, pa, pd, hW4, ra, rd, rl, pb⟩ := rows3 s n r x0 x w
  have ca := (cell_of_row _ _ 2 _ _ _ pd).trans (show _ = some (Value.float .f64 x0) from rfl)
  have fa := frozen_of_row _ _ 2 _ _ pd
  obtain ⟨c0, c1, c2, c3⟩ := cells4 pa
  have R2 := Lib.hid r2
  have E2 := Lib.hid e2
  have H4 := Lib.hid hW4
  have RA : Hid (∀ V, Below W4.heap.size W4 V → V.heap[w.heap.size]? = some (.cells #[.int .i64 s, .int .i64 n, .float .f64 x0, .int .i64 r] 24 (0, 0))) := Lib.hid (fun V h => (h.block _ (lt_of_row' ra)).trans ra)
  have RD : Hid (∀ V, Below W4.heap.size W4 V → V.heap[w.heap.size + 1]? = some (.cells #[.int .i64 s, .int .i64 n, .float .f64 x, .int .i64 r] 24 (0, 0))) := Lib.hid (fun V h => (h.block _ (lt_of_row' rd)).trans rd)
  have RL : Hid (∀ V, Below W4.heap.size W4 V → V.heap[w.heap.size + 2]? = some (.cells #[.int .i64 s, .int .i64 n, .float .f64 4607182418800017408, .int .i64 r] 24 (0, 0))) := Lib.hid (fun V h => (h.block _ (lt_of_row' rl)).trans rl)
  have PB := Lib.hid pb
  clear r2 e2 pa pd hW4 ra rd rl pb
  have hb0 := Below.refl W4.heap.size W4
  go_enter Try.func5, Try.ntmps5
  go_wp2_with (refine wpList_store_row rfl 24 _ _ rfl (w.heap.size + 1) #[.int .i64 s, .int .i64 n, .float .f64 x0, .int .i64 r] rfl rfl _ _ R2.out (by kernel_rfl) rfl (by kernel_rfl) ?_; rw [E2.out])
  rw [← H4.out]
  clear c0 c1 c2 c3 ca fa s1 sf
  refine (HC.out _).mono ?_; rintro e w3 ⟨rfl, hb⟩
  have h3 := below_step hb0 hb
  clear hb hb0
  obtain ⟨c0, c1, c2, c3⟩ := cells4 (RA.out _ h3)
  go_wp2_with fail
  clear c0 c1 c2 c3
  refine (HS.out _).mono ?_; rintro e w4 ⟨rfl, hb⟩
  have h4 := below_step h3 hb
  clear hb
  obtain ⟨c0, c1, c2, c3⟩ := cells4 (RA.out _ h4)
  go_wp2_with fail
  clear c0 c1 c2 c3
  refine (HQ.out _).mono ?_; rintro e w5 ⟨rfl, hb⟩
  have h5 := below_step h4 hb
  clear hb
  obtain ⟨c0, c1, c2, c3⟩ := cells4 (RA.out _ h5)
  go_wp2_with fail
  clear c0 c1 c2 c3
  refine (HB.out _).mono ?_; rintro e w6 ⟨rfl, hb⟩
  have h6 := below_step h5 hb
  clear hb
  go_wp2_with fail
  refine (fixed_val _).mono ?_; rintro e w7 ⟨rfl, hb⟩
  go_wp2_with fail
  go_ret
  exact ⟨rfl, below_step PB.out (below_step h6 hb)⟩

set_option maxRecDepth 100000 in
set_option maxHeartbeats 2000000 in
theorem quota_lt (s n r N M S Q Q2 B T3 T6 T2 K : Int) (x0 x : Nat) (w : World) (q0 : wrap64 (s * n) = N) (q1 : wrap64 (wrap64 (N + s) + 2) = S) (q3 : wrap64 (N - wrap64 (2 * n)) = M) (q5 : wrap64 (wrap64 (3 * N) - wrap64 (3 * n)) = T3)
    (p0 : decide (Q < 0) = false) (p1 : decide (Q > M) = false) (p2 : decide (B ≥ T3) = true) (k3 : decide (K ≥ 3) = true) (k5 : decide (K ≤ 5) = true) (le : (FloatKind.f64.format.order x 4607182418800017408 == some .lt || FloatKind.f64.format.order x 4607182418800017408 == some .eq) = true) (lt : (FloatKind.f64.format.order x x0 == some .lt) = true)
    (HC : Hid (∀ W, Calls Try.prog 12 #[.agg #[.int .i64 s, .int .i64 n, .float .f64 x0, .int .i64 r]] W fun e w' => e = .returned (.int .i64 0) ∧ Below W.heap.size W w')) (HS : Hid (∀ W, Calls Try.prog 14 #[.agg #[.int .i64 s, .int .i64 n, .float .f64 x0, .int .i64 r]] W fun e w' => e = .returned (.int .i64 S) ∧ Below W.heap.size W w')) (HQ : Hid (∀ W, Calls Try.prog 16 #[.agg #[.int .i64 s, .int .i64 n, .float .f64 x0, .int .i64 r]] W fun e w' => e = .returned (.int .i64 Q) ∧ Below W.heap.size W w')) (HB : Hid (∀ W, Calls Try.prog 18 #[.agg #[.int .i64 s, .int .i64 n, .float .f64 x0, .int .i64 r]] W fun e w' => e = .returned (.int .i64 B) ∧ Below W.heap.size W w')) (HL : Hid (∀ W, Calls Try.prog 16 #[.agg #[.int .i64 s, .int .i64 n, .float .f64 4607182418800017408, .int .i64 r]] W fun e w' => e = .returned (.int .i64 M) ∧ Below W.heap.size W w')) (HD : Hid (∀ W, Calls Try.prog 12 #[.agg #[.int .i64 s, .int .i64 n, .float .f64 x, .int .i64 r]] W fun e w' => e = .returned (.int .i64 0) ∧ Below W.heap.size W w')) (HE : Hid (∀ W, Calls Try.prog 16 #[.agg #[.int .i64 s, .int .i64 n, .float .f64 x, .int .i64 r]] W fun e w' => e = .returned (.int .i64 Q2) ∧ Below W.heap.size W w')) (hk : KindC 21 x K) :
    Calls Try.prog 5 #[.agg #[.int .i64 s, .int .i64 n, .float .f64 x0, .int .i64 r], .float .f64 x] w fun e w' => e = .returned (.bool true) ∧ Below w.heap.size w w' := by
  have sf := store_float
  obtain ⟨W1, W4, s1, r2, e2, pa, pd, hW4, ra, rd, rl, pb⟩ := rows3 s n r x0 x w
  have ca := (cell_of_row _ _ 2 _ _ _ pd).trans (show _ = some (Value.float .f64 x0) from rfl)
  have fa := frozen_of_row _ _ 2 _ _ pd
  obtain ⟨c0, c1, c2, c3⟩ := cells4 pa
  have R2 := Lib.hid r2
  have E2 := Lib.hid e2
  have H4 := Lib.hid hW4
  have RA : Hid (∀ V, Below W4.heap.size W4 V → V.heap[w.heap.size]? = some (.cells #[.int .i64 s, .int .i64 n, .float .f64 x0, .int .i64 r] 24 (0, 0))) := Lib.hid (fun V h => (h.block _ (lt_of_row' ra)).trans ra)
  have RD : Hid (∀ V, Below W4.heap.size W4 V → V.heap[w.heap.size + 1]? = some (.cells #[.int .i64 s, .int .i64 n, .float .f64 x, .int .i64 r] 24 (0, 0))) := Lib.hid (fun V h => (h.block _ (lt_of_row' rd)).trans rd)
  have RL : Hid (∀ V, Below W4.heap.size W4 V → V.heap[w.heap.size + 2]? = some (.cells #[.int .i64 s, .int .i64 n, .float .f64 4607182418800017408, .int .i64 r] 24 (0, 0))) := Lib.hid (fun V h => (h.block _ (lt_of_row' rl)).trans rl)
  have PB := Lib.hid pb
  clear r2 e2 pa pd hW4 ra rd rl pb
  have hb0 := Below.refl W4.heap.size W4
  go_enter Try.func5, Try.ntmps5
  go_wp2_with (refine wpList_store_row rfl 24 _ _ rfl (w.heap.size + 1) #[.int .i64 s, .int .i64 n, .float .f64 x0, .int .i64 r] rfl rfl _ _ R2.out (by kernel_rfl) rfl (by kernel_rfl) ?_; rw [E2.out])
  rw [← H4.out]
  clear c0 c1 c2 c3 ca fa s1 sf
  refine (HC.out _).mono ?_; rintro e w3 ⟨rfl, hb⟩
  have h3 := below_step hb0 hb
  clear hb hb0
  obtain ⟨c0, c1, c2, c3⟩ := cells4 (RA.out _ h3)
  obtain ⟨l0, l1, l2, l3⟩ := cells4 (RL.out _ h3)
  have b0 := cell_regrown c0
  have b1 := cell_regrown c1
  have b2 := cell_regrown c2
  have b3 := cell_regrown c3
  have m0 := cell_regrown l0
  have m1 := cell_regrown l1
  have m2 := cell_regrown l2
  have m3 := cell_regrown l3
  go_wp2_with fail
  clear c0 c1 c2 c3 l0 l1 l2 l3
  refine Loose.wp_region_quiet_fast (by kernel_rfl) (by kernel_rfl) ?_
  (try simp only [List.append_eq, List.cons_append, List.nil_append])
  repeat (go_big_quiet_step (fail))
  go_big_quiet_step ((go_at_call 14; exact Calls.regrown_of (HS.out _)))
  repeat (go_big_quiet_step (fail))
  go_big_quiet_step ((go_at_call 16; exact Calls.regrown_of (HQ.out _)))
  repeat (go_big_quiet_step (fail))
  go_big_quiet_step ((go_at_call 16; exact Calls.regrown_of (HQ.out _)))
  repeat (go_big_quiet_step (fail))
  go_big_quiet_step ((go_at_call 16; exact Calls.regrown_of (HL.out _)))
  repeat (go_big_quiet_step (fail))
  refine wpQuiet_nil ?_
  intro _ hw'
  obtain ⟨⟨dq, osq⟩, hw''⟩ := hw'
  subst hw''
  clear b0 b1 b2 b3 m0 m1 m2 m3
  obtain ⟨V, hV, h4'⟩ : ∃ V, V = _ ∧ Below w3.heap.size w3 V := ⟨_, rfl, below_regrown w3 dq osq⟩
  have h4 : Below W4.heap.size W4 V := below_step h3 h4'
  clear h4'
  rw [← hV]
  clear hV h3
  obtain ⟨d0, d1, d2, d3⟩ := cells4 (RD.out _ h4)
  go_wp2_with fail
  refine (hk.out _).mono ?_; rintro e w5 ⟨rfl, rfl⟩
  go_wp2_with fail
  clear d0 d1 d2 d3
  refine (HD.out _).mono ?_; rintro e w6 ⟨rfl, hb⟩
  have h5 := below_step h4 hb
  clear hb
  obtain ⟨c0, c1, c2, c3⟩ := cells4 (RA.out _ h5)
  obtain ⟨d0, d1, d2, d3⟩ := cells4 (RD.out _ h5)
  have b0 := cell_regrown c0
  have b1 := cell_regrown c1
  have b2 := cell_regrown c2
  have b3 := cell_regrown c3
  have m0 := cell_regrown d0
  have m1 := cell_regrown d1
  have m2 := cell_regrown d2
  have m3 := cell_regrown d3
  go_wp2_with fail
  clear c0 c1 c2 c3 d0 d1 d2 d3
  refine Loose.wp_region_quiet_fast (by kernel_rfl) (by kernel_rfl) ?_
  (try simp only [List.append_eq, List.cons_append, List.nil_append])
  repeat (go_big_quiet_step (fail))
  go_big_quiet_step ((go_at_call 18; exact Calls.regrown_of (HB.out _)))
  repeat (go_big_quiet_step (fail))
  go_big_quiet_step ((go_at_call 20; exact Calls.regrown_of (fixed_val _)))
  repeat (go_big_quiet_step (fail))
  refine wpQuiet_nil ?_
  intro _ hw'
  obtain ⟨⟨dq, osq⟩, hw''⟩ := hw'
  subst hw''
  go_wp2_with fail
  go_ret
  exact ⟨rfl, below_step PB.out (below_step h5 (below_regrown _ _ _))⟩

set_option maxRecDepth 100000 in
set_option maxHeartbeats 2000000 in
theorem quota_ge (s n r N M S Q Q2 B T3 T6 T2 K : Int) (x0 x : Nat) (w : World) (q0 : wrap64 (s * n) = N) (q1 : wrap64 (wrap64 (N + s) + 2) = S) (q3 : wrap64 (N - wrap64 (2 * n)) = M) (q5 : wrap64 (wrap64 (3 * N) - wrap64 (3 * n)) = T3)
    (p0 : decide (Q < 0) = false) (p1 : decide (Q > M) = false) (p2 : decide (B ≥ T3) = true) (k3 : decide (K ≥ 3) = true) (k5 : decide (K ≤ 5) = true) (le : (FloatKind.f64.format.order x 4607182418800017408 == some .lt || FloatKind.f64.format.order x 4607182418800017408 == some .eq) = true) (lt : (FloatKind.f64.format.order x x0 == some .lt) = false) (qq : decide (Q2 ≥ Q) = true)
    (HC : Hid (∀ W, Calls Try.prog 12 #[.agg #[.int .i64 s, .int .i64 n, .float .f64 x0, .int .i64 r]] W fun e w' => e = .returned (.int .i64 0) ∧ Below W.heap.size W w')) (HS : Hid (∀ W, Calls Try.prog 14 #[.agg #[.int .i64 s, .int .i64 n, .float .f64 x0, .int .i64 r]] W fun e w' => e = .returned (.int .i64 S) ∧ Below W.heap.size W w')) (HQ : Hid (∀ W, Calls Try.prog 16 #[.agg #[.int .i64 s, .int .i64 n, .float .f64 x0, .int .i64 r]] W fun e w' => e = .returned (.int .i64 Q) ∧ Below W.heap.size W w')) (HB : Hid (∀ W, Calls Try.prog 18 #[.agg #[.int .i64 s, .int .i64 n, .float .f64 x0, .int .i64 r]] W fun e w' => e = .returned (.int .i64 B) ∧ Below W.heap.size W w')) (HL : Hid (∀ W, Calls Try.prog 16 #[.agg #[.int .i64 s, .int .i64 n, .float .f64 4607182418800017408, .int .i64 r]] W fun e w' => e = .returned (.int .i64 M) ∧ Below W.heap.size W w')) (HD : Hid (∀ W, Calls Try.prog 12 #[.agg #[.int .i64 s, .int .i64 n, .float .f64 x, .int .i64 r]] W fun e w' => e = .returned (.int .i64 0) ∧ Below W.heap.size W w')) (HE : Hid (∀ W, Calls Try.prog 16 #[.agg #[.int .i64 s, .int .i64 n, .float .f64 x, .int .i64 r]] W fun e w' => e = .returned (.int .i64 Q2) ∧ Below W.heap.size W w')) (hk : KindC 21 x K) :
    Calls Try.prog 5 #[.agg #[.int .i64 s, .int .i64 n, .float .f64 x0, .int .i64 r], .float .f64 x] w fun e w' => e = .returned (.bool true) ∧ Below w.heap.size w w' := by
  have sf := store_float
  obtain ⟨W1, W4, s1, r2, e2, pa, pd, hW4, ra, rd, rl, pb⟩ := rows3 s n r x0 x w
  have ca := (cell_of_row _ _ 2 _ _ _ pd).trans (show _ = some (Value.float .f64 x0) from rfl)
  have fa := frozen_of_row _ _ 2 _ _ pd
  obtain ⟨c0, c1, c2, c3⟩ := cells4 pa
  have R2 := Lib.hid r2
  have E2 := Lib.hid e2
  have H4 := Lib.hid hW4
  have RA : Hid (∀ V, Below W4.heap.size W4 V → V.heap[w.heap.size]? = some (.cells #[.int .i64 s, .int .i64 n, .float .f64 x0, .int .i64 r] 24 (0, 0))) := Lib.hid (fun V h => (h.block _ (lt_of_row' ra)).trans ra)
  have RD : Hid (∀ V, Below W4.heap.size W4 V → V.heap[w.heap.size + 1]? = some (.cells #[.int .i64 s, .int .i64 n, .float .f64 x, .int .i64 r] 24 (0, 0))) := Lib.hid (fun V h => (h.block _ (lt_of_row' rd)).trans rd)
  have RL : Hid (∀ V, Below W4.heap.size W4 V → V.heap[w.heap.size + 2]? = some (.cells #[.int .i64 s, .int .i64 n, .float .f64 4607182418800017408, .int .i64 r] 24 (0, 0))) := Lib.hid (fun V h => (h.block _ (lt_of_row' rl)).trans rl)
  have PB := Lib.hid pb
  clear r2 e2 pa pd hW4 ra rd rl pb
  have hb0 := Below.refl W4.heap.size W4
  go_enter Try.func5, Try.ntmps5
  go_wp2_with (refine wpList_store_row rfl 24 _ _ rfl (w.heap.size + 1) #[.int .i64 s, .int .i64 n, .float .f64 x0, .int .i64 r] rfl rfl _ _ R2.out (by kernel_rfl) rfl (by kernel_rfl) ?_; rw [E2.out])
  rw [← H4.out]
  clear c0 c1 c2 c3 ca fa s1 sf
  refine (HC.out _).mono ?_; rintro e w3 ⟨rfl, hb⟩
  have h3 := below_step hb0 hb
  clear hb hb0
  obtain ⟨c0, c1, c2, c3⟩ := cells4 (RA.out _ h3)
  obtain ⟨l0, l1, l2, l3⟩ := cells4 (RL.out _ h3)
  have b0 := cell_regrown c0
  have b1 := cell_regrown c1
  have b2 := cell_regrown c2
  have b3 := cell_regrown c3
  have m0 := cell_regrown l0
  have m1 := cell_regrown l1
  have m2 := cell_regrown l2
  have m3 := cell_regrown l3
  go_wp2_with fail
  clear c0 c1 c2 c3 l0 l1 l2 l3
  refine Loose.wp_region_quiet_fast (by kernel_rfl) (by kernel_rfl) ?_
  (try simp only [List.append_eq, List.cons_append, List.nil_append])
  repeat (go_big_quiet_step (fail))
  go_big_quiet_step ((go_at_call 14; exact Calls.regrown_of (HS.out _)))
  repeat (go_big_quiet_step (fail))
  go_big_quiet_step ((go_at_call 16; exact Calls.regrown_of (HQ.out _)))
  repeat (go_big_quiet_step (fail))
  go_big_quiet_step ((go_at_call 16; exact Calls.regrown_of (HQ.out _)))
  repeat (go_big_quiet_step (fail))
  go_big_quiet_step ((go_at_call 16; exact Calls.regrown_of (HL.out _)))
  repeat (go_big_quiet_step (fail))
  refine wpQuiet_nil ?_
  intro _ hw'
  obtain ⟨⟨dq, osq⟩, hw''⟩ := hw'
  subst hw''
  clear b0 b1 b2 b3 m0 m1 m2 m3
  obtain ⟨V, hV, h4'⟩ : ∃ V, V = _ ∧ Below w3.heap.size w3 V := ⟨_, rfl, below_regrown w3 dq osq⟩
  have h4 : Below W4.heap.size W4 V := below_step h3 h4'
  clear h4'
  rw [← hV]
  clear hV h3
  obtain ⟨d0, d1, d2, d3⟩ := cells4 (RD.out _ h4)
  go_wp2_with fail
  refine (hk.out _).mono ?_; rintro e w5 ⟨rfl, rfl⟩
  go_wp2_with fail
  clear d0 d1 d2 d3
  refine (HD.out _).mono ?_; rintro e w6 ⟨rfl, hb⟩
  have h5 := below_step h4 hb
  clear hb
  obtain ⟨c0, c1, c2, c3⟩ := cells4 (RA.out _ h5)
  obtain ⟨d0, d1, d2, d3⟩ := cells4 (RD.out _ h5)
  have b0 := cell_regrown c0
  have b1 := cell_regrown c1
  have b2 := cell_regrown c2
  have b3 := cell_regrown c3
  have m0 := cell_regrown d0
  have m1 := cell_regrown d1
  have m2 := cell_regrown d2
  have m3 := cell_regrown d3
  go_wp2_with fail
  clear c0 c1 c2 c3 d0 d1 d2 d3
  refine Loose.wp_region_quiet_fast (by kernel_rfl) (by kernel_rfl) ?_
  (try simp only [List.append_eq, List.cons_append, List.nil_append])
  repeat (go_big_quiet_step (fail))
  go_big_quiet_step ((go_at_call 16; exact Calls.regrown_of (HE.out _)))
  repeat (go_big_quiet_step (fail))
  go_big_quiet_step ((go_at_call 16; exact Calls.regrown_of (HQ.out _)))
  repeat (go_big_quiet_step (fail))
  go_big_quiet_step ((go_at_call 18; exact Calls.regrown_of (HB.out _)))
  repeat (go_big_quiet_step (fail))
  go_big_quiet_step ((go_at_call 20; exact Calls.regrown_of (fixed_val _)))
  repeat (go_big_quiet_step (fail))
  refine wpQuiet_nil ?_
  intro _ hw'
  obtain ⟨⟨dq, osq⟩, hw''⟩ := hw'
  subst hw''
  go_wp2_with fail
  go_ret
  exact ⟨rfl, below_step PB.out (below_step h5 (below_regrown _ _ _))⟩

set_option maxRecDepth 100000 in
set_option maxHeartbeats 2000000 in
theorem quota_k3 (s n r N M S Q Q2 B T3 T6 T2 K : Int) (x0 x : Nat) (w : World) (q0 : wrap64 (s * n) = N) (q1 : wrap64 (wrap64 (N + s) + 2) = S) (q3 : wrap64 (N - wrap64 (2 * n)) = M) (q5 : wrap64 (wrap64 (3 * N) - wrap64 (3 * n)) = T3)
    (p0 : decide (Q < 0) = false) (p1 : decide (Q > M) = false) (p2 : decide (B ≥ T3) = true) (k3 : decide (K ≥ 3) = false)
    (HC : Hid (∀ W, Calls Try.prog 12 #[.agg #[.int .i64 s, .int .i64 n, .float .f64 x0, .int .i64 r]] W fun e w' => e = .returned (.int .i64 0) ∧ Below W.heap.size W w')) (HS : Hid (∀ W, Calls Try.prog 14 #[.agg #[.int .i64 s, .int .i64 n, .float .f64 x0, .int .i64 r]] W fun e w' => e = .returned (.int .i64 S) ∧ Below W.heap.size W w')) (HQ : Hid (∀ W, Calls Try.prog 16 #[.agg #[.int .i64 s, .int .i64 n, .float .f64 x0, .int .i64 r]] W fun e w' => e = .returned (.int .i64 Q) ∧ Below W.heap.size W w')) (HB : Hid (∀ W, Calls Try.prog 18 #[.agg #[.int .i64 s, .int .i64 n, .float .f64 x0, .int .i64 r]] W fun e w' => e = .returned (.int .i64 B) ∧ Below W.heap.size W w')) (HL : Hid (∀ W, Calls Try.prog 16 #[.agg #[.int .i64 s, .int .i64 n, .float .f64 4607182418800017408, .int .i64 r]] W fun e w' => e = .returned (.int .i64 M) ∧ Below W.heap.size W w')) (HD : Hid (∀ W, Calls Try.prog 12 #[.agg #[.int .i64 s, .int .i64 n, .float .f64 x, .int .i64 r]] W fun e w' => e = .returned (.int .i64 1) ∧ Below W.heap.size W w')) (HE : Hid (∀ W, Calls Try.prog 16 #[.agg #[.int .i64 s, .int .i64 n, .float .f64 x, .int .i64 r]] W fun e w' => e = .returned (.int .i64 Q2) ∧ Below W.heap.size W w')) (hk : KindC 21 x K) :
    Calls Try.prog 5 #[.agg #[.int .i64 s, .int .i64 n, .float .f64 x0, .int .i64 r], .float .f64 x] w fun e w' => e = .returned (.bool true) ∧ Below w.heap.size w w' := by
  have sf := store_float
  obtain ⟨W1, W4, s1, r2, e2, pa, pd, hW4, ra, rd, rl, pb⟩ := rows3 s n r x0 x w
  have ca := (cell_of_row _ _ 2 _ _ _ pd).trans (show _ = some (Value.float .f64 x0) from rfl)
  have fa := frozen_of_row _ _ 2 _ _ pd
  obtain ⟨c0, c1, c2, c3⟩ := cells4 pa
  have R2 := Lib.hid r2
  have E2 := Lib.hid e2
  have H4 := Lib.hid hW4
  have RA : Hid (∀ V, Below W4.heap.size W4 V → V.heap[w.heap.size]? = some (.cells #[.int .i64 s, .int .i64 n, .float .f64 x0, .int .i64 r] 24 (0, 0))) := Lib.hid (fun V h => (h.block _ (lt_of_row' ra)).trans ra)
  have RD : Hid (∀ V, Below W4.heap.size W4 V → V.heap[w.heap.size + 1]? = some (.cells #[.int .i64 s, .int .i64 n, .float .f64 x, .int .i64 r] 24 (0, 0))) := Lib.hid (fun V h => (h.block _ (lt_of_row' rd)).trans rd)
  have RL : Hid (∀ V, Below W4.heap.size W4 V → V.heap[w.heap.size + 2]? = some (.cells #[.int .i64 s, .int .i64 n, .float .f64 4607182418800017408, .int .i64 r] 24 (0, 0))) := Lib.hid (fun V h => (h.block _ (lt_of_row' rl)).trans rl)
  have PB := Lib.hid pb
  clear r2 e2 pa pd hW4 ra rd rl pb
  have hb0 := Below.refl W4.heap.size W4
  go_enter Try.func5, Try.ntmps5
  go_wp2_with (refine wpList_store_row rfl 24 _ _ rfl (w.heap.size + 1) #[.int .i64 s, .int .i64 n, .float .f64 x0, .int .i64 r] rfl rfl _ _ R2.out (by kernel_rfl) rfl (by kernel_rfl) ?_; rw [E2.out])
  rw [← H4.out]
  clear c0 c1 c2 c3 ca fa s1 sf
  refine (HC.out _).mono ?_; rintro e w3 ⟨rfl, hb⟩
  have h3 := below_step hb0 hb
  clear hb hb0
  obtain ⟨c0, c1, c2, c3⟩ := cells4 (RA.out _ h3)
  obtain ⟨l0, l1, l2, l3⟩ := cells4 (RL.out _ h3)
  have b0 := cell_regrown c0
  have b1 := cell_regrown c1
  have b2 := cell_regrown c2
  have b3 := cell_regrown c3
  have m0 := cell_regrown l0
  have m1 := cell_regrown l1
  have m2 := cell_regrown l2
  have m3 := cell_regrown l3
  go_wp2_with fail
  clear c0 c1 c2 c3 l0 l1 l2 l3
  refine Loose.wp_region_quiet_fast (by kernel_rfl) (by kernel_rfl) ?_
  (try simp only [List.append_eq, List.cons_append, List.nil_append])
  repeat (go_big_quiet_step (fail))
  go_big_quiet_step ((go_at_call 14; exact Calls.regrown_of (HS.out _)))
  repeat (go_big_quiet_step (fail))
  go_big_quiet_step ((go_at_call 16; exact Calls.regrown_of (HQ.out _)))
  repeat (go_big_quiet_step (fail))
  go_big_quiet_step ((go_at_call 16; exact Calls.regrown_of (HQ.out _)))
  repeat (go_big_quiet_step (fail))
  go_big_quiet_step ((go_at_call 16; exact Calls.regrown_of (HL.out _)))
  repeat (go_big_quiet_step (fail))
  refine wpQuiet_nil ?_
  intro _ hw'
  obtain ⟨⟨dq, osq⟩, hw''⟩ := hw'
  subst hw''
  clear b0 b1 b2 b3 m0 m1 m2 m3
  obtain ⟨V, hV, h4'⟩ : ∃ V, V = _ ∧ Below w3.heap.size w3 V := ⟨_, rfl, below_regrown w3 dq osq⟩
  have h4 : Below W4.heap.size W4 V := below_step h3 h4'
  clear h4'
  rw [← hV]
  clear hV h3
  obtain ⟨d0, d1, d2, d3⟩ := cells4 (RD.out _ h4)
  go_wp2_with fail
  refine (hk.out _).mono ?_; rintro e w5 ⟨rfl, rfl⟩
  go_wp2_with fail
  clear d0 d1 d2 d3
  refine (HD.out _).mono ?_; rintro e w6 ⟨rfl, hb⟩
  have h5 := below_step h4 hb
  clear hb
  obtain ⟨c0, c1, c2, c3⟩ := cells4 (RA.out _ h5)
  obtain ⟨d0, d1, d2, d3⟩ := cells4 (RD.out _ h5)
  have b0 := cell_regrown c0
  have b1 := cell_regrown c1
  have b2 := cell_regrown c2
  have b3 := cell_regrown c3
  have m0 := cell_regrown d0
  have m1 := cell_regrown d1
  have m2 := cell_regrown d2
  have m3 := cell_regrown d3
  go_wp2_with fail
  clear c0 c1 c2 c3 d0 d1 d2 d3
  refine Loose.wp_region_quiet_fast (by kernel_rfl) (by kernel_rfl) ?_
  (try simp only [List.append_eq, List.cons_append, List.nil_append])
  repeat (go_big_quiet_step (fail))
  go_big_quiet_step ((go_at_call 18; exact Calls.regrown_of (HB.out _)))
  repeat (go_big_quiet_step (fail))
  go_big_quiet_step ((go_at_call 20; exact Calls.regrown_of (fixed_val _)))
  repeat (go_big_quiet_step (fail))
  refine wpQuiet_nil ?_
  intro _ hw'
  obtain ⟨⟨dq, osq⟩, hw''⟩ := hw'
  subst hw''
  go_wp2_with fail
  go_ret
  exact ⟨rfl, below_step PB.out (below_step h5 (below_regrown _ _ _))⟩

set_option maxRecDepth 100000 in
set_option maxHeartbeats 2000000 in
theorem quota_k6 (s n r N M S Q Q2 B T3 T6 T2 K : Int) (x0 x : Nat) (w : World) (q0 : wrap64 (s * n) = N) (q1 : wrap64 (wrap64 (N + s) + 2) = S) (q3 : wrap64 (N - wrap64 (2 * n)) = M) (q5 : wrap64 (wrap64 (3 * N) - wrap64 (3 * n)) = T3)
    (p0 : decide (Q < 0) = false) (p1 : decide (Q > M) = false) (p2 : decide (B ≥ T3) = true) (k3 : decide (K ≥ 3) = true) (k5 : decide (K ≤ 5) = false)
    (HC : Hid (∀ W, Calls Try.prog 12 #[.agg #[.int .i64 s, .int .i64 n, .float .f64 x0, .int .i64 r]] W fun e w' => e = .returned (.int .i64 0) ∧ Below W.heap.size W w')) (HS : Hid (∀ W, Calls Try.prog 14 #[.agg #[.int .i64 s, .int .i64 n, .float .f64 x0, .int .i64 r]] W fun e w' => e = .returned (.int .i64 S) ∧ Below W.heap.size W w')) (HQ : Hid (∀ W, Calls Try.prog 16 #[.agg #[.int .i64 s, .int .i64 n, .float .f64 x0, .int .i64 r]] W fun e w' => e = .returned (.int .i64 Q) ∧ Below W.heap.size W w')) (HB : Hid (∀ W, Calls Try.prog 18 #[.agg #[.int .i64 s, .int .i64 n, .float .f64 x0, .int .i64 r]] W fun e w' => e = .returned (.int .i64 B) ∧ Below W.heap.size W w')) (HL : Hid (∀ W, Calls Try.prog 16 #[.agg #[.int .i64 s, .int .i64 n, .float .f64 4607182418800017408, .int .i64 r]] W fun e w' => e = .returned (.int .i64 M) ∧ Below W.heap.size W w')) (HD : Hid (∀ W, Calls Try.prog 12 #[.agg #[.int .i64 s, .int .i64 n, .float .f64 x, .int .i64 r]] W fun e w' => e = .returned (.int .i64 1) ∧ Below W.heap.size W w')) (HE : Hid (∀ W, Calls Try.prog 16 #[.agg #[.int .i64 s, .int .i64 n, .float .f64 x, .int .i64 r]] W fun e w' => e = .returned (.int .i64 Q2) ∧ Below W.heap.size W w')) (hk : KindC 21 x K) :
    Calls Try.prog 5 #[.agg #[.int .i64 s, .int .i64 n, .float .f64 x0, .int .i64 r], .float .f64 x] w fun e w' => e = .returned (.bool true) ∧ Below w.heap.size w w' := by
  have sf := store_float
  obtain ⟨W1, W4, s1, r2, e2, pa, pd, hW4, ra, rd, rl, pb⟩ := rows3 s n r x0 x w
  have ca := (cell_of_row _ _ 2 _ _ _ pd).trans (show _ = some (Value.float .f64 x0) from rfl)
  have fa := frozen_of_row _ _ 2 _ _ pd
  obtain ⟨c0, c1, c2, c3⟩ := cells4 pa
  have R2 := Lib.hid r2
  have E2 := Lib.hid e2
  have H4 := Lib.hid hW4
  have RA : Hid (∀ V, Below W4.heap.size W4 V → V.heap[w.heap.size]? = some (.cells #[.int .i64 s, .int .i64 n, .float .f64 x0, .int .i64 r] 24 (0, 0))) := Lib.hid (fun V h => (h.block _ (lt_of_row' ra)).trans ra)
  have RD : Hid (∀ V, Below W4.heap.size W4 V → V.heap[w.heap.size + 1]? = some (.cells #[.int .i64 s, .int .i64 n, .float .f64 x, .int .i64 r] 24 (0, 0))) := Lib.hid (fun V h => (h.block _ (lt_of_row' rd)).trans rd)
  have RL : Hid (∀ V, Below W4.heap.size W4 V → V.heap[w.heap.size + 2]? = some (.cells #[.int .i64 s, .int .i64 n, .float .f64 4607182418800017408, .int .i64 r] 24 (0, 0))) := Lib.hid (fun V h => (h.block _ (lt_of_row' rl)).trans rl)
  have PB := Lib.hid pb
  clear r2 e2 pa pd hW4 ra rd rl pb
  have hb0 := Below.refl W4.heap.size W4
  go_enter Try.func5, Try.ntmps5
  go_wp2_with (refine wpList_store_row rfl 24 _ _ rfl (w.heap.size + 1) #[.int .i64 s, .int .i64 n, .float .f64 x0, .int .i64 r] rfl rfl _ _ R2.out (by kernel_rfl) rfl (by kernel_rfl) ?_; rw [E2.out])
  rw [← H4.out]
  clear c0 c1 c2 c3 ca fa s1 sf
  refine (HC.out _).mono ?_; rintro e w3 ⟨rfl, hb⟩
  have h3 := below_step hb0 hb
  clear hb hb0
  obtain ⟨c0, c1, c2, c3⟩ := cells4 (RA.out _ h3)
  obtain ⟨l0, l1, l2, l3⟩ := cells4 (RL.out _ h3)
  have b0 := cell_regrown c0
  have b1 := cell_regrown c1
  have b2 := cell_regrown c2
  have b3 := cell_regrown c3
  have m0 := cell_regrown l0
  have m1 := cell_regrown l1
  have m2 := cell_regrown l2
  have m3 := cell_regrown l3
  go_wp2_with fail
  clear c0 c1 c2 c3 l0 l1 l2 l3
  refine Loose.wp_region_quiet_fast (by kernel_rfl) (by kernel_rfl) ?_
  (try simp only [List.append_eq, List.cons_append, List.nil_append])
  repeat (go_big_quiet_step (fail))
  go_big_quiet_step ((go_at_call 14; exact Calls.regrown_of (HS.out _)))
  repeat (go_big_quiet_step (fail))
  go_big_quiet_step ((go_at_call 16; exact Calls.regrown_of (HQ.out _)))
  repeat (go_big_quiet_step (fail))
  go_big_quiet_step ((go_at_call 16; exact Calls.regrown_of (HQ.out _)))
  repeat (go_big_quiet_step (fail))
  go_big_quiet_step ((go_at_call 16; exact Calls.regrown_of (HL.out _)))
  repeat (go_big_quiet_step (fail))
  refine wpQuiet_nil ?_
  intro _ hw'
  obtain ⟨⟨dq, osq⟩, hw''⟩ := hw'
  subst hw''
  clear b0 b1 b2 b3 m0 m1 m2 m3
  obtain ⟨V, hV, h4'⟩ : ∃ V, V = _ ∧ Below w3.heap.size w3 V := ⟨_, rfl, below_regrown w3 dq osq⟩
  have h4 : Below W4.heap.size W4 V := below_step h3 h4'
  clear h4'
  rw [← hV]
  clear hV h3
  obtain ⟨d0, d1, d2, d3⟩ := cells4 (RD.out _ h4)
  go_wp2_with fail
  refine (hk.out _).mono ?_; rintro e w5 ⟨rfl, rfl⟩
  go_wp2_with fail
  clear d0 d1 d2 d3
  refine (HD.out _).mono ?_; rintro e w6 ⟨rfl, hb⟩
  have h5 := below_step h4 hb
  clear hb
  obtain ⟨c0, c1, c2, c3⟩ := cells4 (RA.out _ h5)
  obtain ⟨d0, d1, d2, d3⟩ := cells4 (RD.out _ h5)
  have b0 := cell_regrown c0
  have b1 := cell_regrown c1
  have b2 := cell_regrown c2
  have b3 := cell_regrown c3
  have m0 := cell_regrown d0
  have m1 := cell_regrown d1
  have m2 := cell_regrown d2
  have m3 := cell_regrown d3
  go_wp2_with fail
  clear c0 c1 c2 c3 d0 d1 d2 d3
  refine Loose.wp_region_quiet_fast (by kernel_rfl) (by kernel_rfl) ?_
  (try simp only [List.append_eq, List.cons_append, List.nil_append])
  repeat (go_big_quiet_step (fail))
  go_big_quiet_step ((go_at_call 18; exact Calls.regrown_of (HB.out _)))
  repeat (go_big_quiet_step (fail))
  go_big_quiet_step ((go_at_call 20; exact Calls.regrown_of (fixed_val _)))
  repeat (go_big_quiet_step (fail))
  refine wpQuiet_nil ?_
  intro _ hw'
  obtain ⟨⟨dq, osq⟩, hw''⟩ := hw'
  subst hw''
  go_wp2_with fail
  go_ret
  exact ⟨rfl, below_step PB.out (below_step h5 (below_regrown _ _ _))⟩

set_option maxRecDepth 100000 in
set_option maxHeartbeats 2000000 in
theorem quota_kx (s n r N M S Q Q2 B T3 T6 T2 K : Int) (x0 x : Nat) (w : World) (q0 : wrap64 (s * n) = N) (q1 : wrap64 (wrap64 (N + s) + 2) = S) (q3 : wrap64 (N - wrap64 (2 * n)) = M) (q5 : wrap64 (wrap64 (3 * N) - wrap64 (3 * n)) = T3)
    (p0 : decide (Q < 0) = false) (p1 : decide (Q > M) = false) (p2 : decide (B ≥ T3) = true) (k3 : decide (K ≥ 3) = true) (k5 : decide (K ≤ 5) = true) (le : (FloatKind.f64.format.order x 4607182418800017408 == some .lt || FloatKind.f64.format.order x 4607182418800017408 == some .eq) = false)
    (HC : Hid (∀ W, Calls Try.prog 12 #[.agg #[.int .i64 s, .int .i64 n, .float .f64 x0, .int .i64 r]] W fun e w' => e = .returned (.int .i64 0) ∧ Below W.heap.size W w')) (HS : Hid (∀ W, Calls Try.prog 14 #[.agg #[.int .i64 s, .int .i64 n, .float .f64 x0, .int .i64 r]] W fun e w' => e = .returned (.int .i64 S) ∧ Below W.heap.size W w')) (HQ : Hid (∀ W, Calls Try.prog 16 #[.agg #[.int .i64 s, .int .i64 n, .float .f64 x0, .int .i64 r]] W fun e w' => e = .returned (.int .i64 Q) ∧ Below W.heap.size W w')) (HB : Hid (∀ W, Calls Try.prog 18 #[.agg #[.int .i64 s, .int .i64 n, .float .f64 x0, .int .i64 r]] W fun e w' => e = .returned (.int .i64 B) ∧ Below W.heap.size W w')) (HL : Hid (∀ W, Calls Try.prog 16 #[.agg #[.int .i64 s, .int .i64 n, .float .f64 4607182418800017408, .int .i64 r]] W fun e w' => e = .returned (.int .i64 M) ∧ Below W.heap.size W w')) (HD : Hid (∀ W, Calls Try.prog 12 #[.agg #[.int .i64 s, .int .i64 n, .float .f64 x, .int .i64 r]] W fun e w' => e = .returned (.int .i64 1) ∧ Below W.heap.size W w')) (HE : Hid (∀ W, Calls Try.prog 16 #[.agg #[.int .i64 s, .int .i64 n, .float .f64 x, .int .i64 r]] W fun e w' => e = .returned (.int .i64 Q2) ∧ Below W.heap.size W w')) (hk : KindC 21 x K) :
    Calls Try.prog 5 #[.agg #[.int .i64 s, .int .i64 n, .float .f64 x0, .int .i64 r], .float .f64 x] w fun e w' => e = .returned (.bool true) ∧ Below w.heap.size w w' := by
  have sf := store_float
  obtain ⟨W1, W4, s1, r2, e2, pa, pd, hW4, ra, rd, rl, pb⟩ := rows3 s n r x0 x w
  have ca := (cell_of_row _ _ 2 _ _ _ pd).trans (show _ = some (Value.float .f64 x0) from rfl)
  have fa := frozen_of_row _ _ 2 _ _ pd
  obtain ⟨c0, c1, c2, c3⟩ := cells4 pa
  have R2 := Lib.hid r2
  have E2 := Lib.hid e2
  have H4 := Lib.hid hW4
  have RA : Hid (∀ V, Below W4.heap.size W4 V → V.heap[w.heap.size]? = some (.cells #[.int .i64 s, .int .i64 n, .float .f64 x0, .int .i64 r] 24 (0, 0))) := Lib.hid (fun V h => (h.block _ (lt_of_row' ra)).trans ra)
  have RD : Hid (∀ V, Below W4.heap.size W4 V → V.heap[w.heap.size + 1]? = some (.cells #[.int .i64 s, .int .i64 n, .float .f64 x, .int .i64 r] 24 (0, 0))) := Lib.hid (fun V h => (h.block _ (lt_of_row' rd)).trans rd)
  have RL : Hid (∀ V, Below W4.heap.size W4 V → V.heap[w.heap.size + 2]? = some (.cells #[.int .i64 s, .int .i64 n, .float .f64 4607182418800017408, .int .i64 r] 24 (0, 0))) := Lib.hid (fun V h => (h.block _ (lt_of_row' rl)).trans rl)
  have PB := Lib.hid pb
  clear r2 e2 pa pd hW4 ra rd rl pb
  have hb0 := Below.refl W4.heap.size W4
  go_enter Try.func5, Try.ntmps5
  go_wp2_with (refine wpList_store_row rfl 24 _ _ rfl (w.heap.size + 1) #[.int .i64 s, .int .i64 n, .float .f64 x0, .int .i64 r] rfl rfl _ _ R2.out (by kernel_rfl) rfl (by kernel_rfl) ?_; rw [E2.out])
  rw [← H4.out]
  clear c0 c1 c2 c3 ca fa s1 sf
  refine (HC.out _).mono ?_; rintro e w3 ⟨rfl, hb⟩
  have h3 := below_step hb0 hb
  clear hb hb0
  obtain ⟨c0, c1, c2, c3⟩ := cells4 (RA.out _ h3)
  obtain ⟨l0, l1, l2, l3⟩ := cells4 (RL.out _ h3)
  have b0 := cell_regrown c0
  have b1 := cell_regrown c1
  have b2 := cell_regrown c2
  have b3 := cell_regrown c3
  have m0 := cell_regrown l0
  have m1 := cell_regrown l1
  have m2 := cell_regrown l2
  have m3 := cell_regrown l3
  go_wp2_with fail
  clear c0 c1 c2 c3 l0 l1 l2 l3
  refine Loose.wp_region_quiet_fast (by kernel_rfl) (by kernel_rfl) ?_
  (try simp only [List.append_eq, List.cons_append, List.nil_append])
  repeat (go_big_quiet_step (fail))
  go_big_quiet_step ((go_at_call 14; exact Calls.regrown_of (HS.out _)))
  repeat (go_big_quiet_step (fail))
  go_big_quiet_step ((go_at_call 16; exact Calls.regrown_of (HQ.out _)))
  repeat (go_big_quiet_step (fail))
  go_big_quiet_step ((go_at_call 16; exact Calls.regrown_of (HQ.out _)))
  repeat (go_big_quiet_step (fail))
  go_big_quiet_step ((go_at_call 16; exact Calls.regrown_of (HL.out _)))
  repeat (go_big_quiet_step (fail))
  refine wpQuiet_nil ?_
  intro _ hw'
  obtain ⟨⟨dq, osq⟩, hw''⟩ := hw'
  subst hw''
  clear b0 b1 b2 b3 m0 m1 m2 m3
  obtain ⟨V, hV, h4'⟩ : ∃ V, V = _ ∧ Below w3.heap.size w3 V := ⟨_, rfl, below_regrown w3 dq osq⟩
  have h4 : Below W4.heap.size W4 V := below_step h3 h4'
  clear h4'
  rw [← hV]
  clear hV h3
  obtain ⟨d0, d1, d2, d3⟩ := cells4 (RD.out _ h4)
  go_wp2_with fail
  refine (hk.out _).mono ?_; rintro e w5 ⟨rfl, rfl⟩
  go_wp2_with fail
  clear d0 d1 d2 d3
  refine (HD.out _).mono ?_; rintro e w6 ⟨rfl, hb⟩
  have h5 := below_step h4 hb
  clear hb
  obtain ⟨c0, c1, c2, c3⟩ := cells4 (RA.out _ h5)
  obtain ⟨d0, d1, d2, d3⟩ := cells4 (RD.out _ h5)
  have b0 := cell_regrown c0
  have b1 := cell_regrown c1
  have b2 := cell_regrown c2
  have b3 := cell_regrown c3
  have m0 := cell_regrown d0
  have m1 := cell_regrown d1
  have m2 := cell_regrown d2
  have m3 := cell_regrown d3
  go_wp2_with fail
  clear c0 c1 c2 c3 d0 d1 d2 d3
  refine Loose.wp_region_quiet_fast (by kernel_rfl) (by kernel_rfl) ?_
  (try simp only [List.append_eq, List.cons_append, List.nil_append])
  repeat (go_big_quiet_step (fail))
  go_big_quiet_step ((go_at_call 18; exact Calls.regrown_of (HB.out _)))
  repeat (go_big_quiet_step (fail))
  go_big_quiet_step ((go_at_call 20; exact Calls.regrown_of (fixed_val _)))
  repeat (go_big_quiet_step (fail))
  refine wpQuiet_nil ?_
  intro _ hw'
  obtain ⟨⟨dq, osq⟩, hw''⟩ := hw'
  subst hw''
  go_wp2_with fail
  go_ret
  exact ⟨rfl, below_step PB.out (below_step h5 (below_regrown _ _ _))⟩

theorem two_tf (x : Bool) : x = true ∨ x = false := by cases x <;> simp
theorem not_lt_leq (x y : Nat) (hx : x < 18446744073709551616) (hy : y < 18446744073709551616) (nx : x % 9223372036854775808 ≤ 9218868437227405312) (ny : y % 9223372036854775808 ≤ 9218868437227405312)
    (h : (FloatKind.f64.format.order x y == some .lt) = false) : (Ieee.double.order y x == some .lt || Ieee.double.order y x == some .eq) = true := by
  have h1 : FloatKind.f64.format.order x y = some (compare (F.key x) (F.key y)) := F.order_key x y hx hy nx ny
  have h2 := F.order_key y x hy hx ny nx
  rw [h1, F.cmp_eq] at h
  rw [h2, F.cmp_eq]
  by_cases a : F.key x < F.key y
  · rw [if_pos a] at h; simp at h
  · clear h h1 h2
    by_cases b : F.key y < F.key x
    · rw [if_pos b]; rfl
    · rw [if_neg b, if_pos (by omega)]; rfl
theorem leq_ok (x : Nat) (h : okX x) : (FloatKind.f64.format.order x 4607182418800017408 == some .lt || FloatKind.f64.format.order x 4607182418800017408 == some .eq) = true := by
  unfold okX at h
  by_cases c : x ≤ 4607182418800017408
  · rw [leq_one x (by omega), decide_eq_true c]
  · have : x = 9223372036854775808 := by omega
    rw [this]; decide
theorem okX_num (x : Nat) (h : okX x) : x % 9223372036854775808 ≤ 9218868437227405312 := by unfold okX at h; omega

theorem quota_main (s n r : Int) (x0 x : Nat) (w : World) (hx0 : x0 < 18446744073709551616) (hx : x < 18446744073709551616) :
    Calls Try.prog 5 #[.agg #[.int .i64 s, .int .i64 n, .float .f64 x0, .int .i64 r], .float .f64 x] w fun e w' => e = .returned (.bool true) ∧ Below w.heap.size w w' := by
  have HC := Lib.hid (fun W => Conf_v s n r x0 W hx0)
  have HS := Lib.hid (fun W => Sectors_v s n r x0 W hx0)
  have HQ := Lib.hid (fun W => Quota_v s n r x0 W hx0)
  have HB := Lib.hid (fun W => Bound_v s n r x0 W hx0)
  by_cases hm : may s n r x0
  case neg =>
    have e1 : cE s n r x0 = 1 := by unfold cE; rw [if_neg hm]
    have e2 : secV s n r x0 = 0 := by unfold secV; rw [if_neg hm]
    have e3 : quoV s n r x0 = 0 := by unfold quoV; rw [if_neg hm]
    have e4 : bouV s n r x0 = 0 := by unfold bouV; rw [if_neg hm]
    rw [e1] at HC
    rw [e2] at HS
    rw [e3] at HQ
    rw [e4] at HB
    exact quota_a s n r x0 x w HC HS HQ HB
  have e1 : cE s n r x0 = 0 := by unfold cE; rw [if_pos hm]
  have e2 : secV s n r x0 = 2 + s * (n + 1) := by unfold secV; rw [if_pos hm]
  have e3 : quoV s n r x0 = ((F.shV x0 ((s - 2) * n) : Nat) : Int) := by unfold quoV; rw [if_pos hm]
  have e4 : bouV s n r x0 = 3 * (1 + (s - 1) * (n + 2)) := by unfold bouV; rw [if_pos hm]
  rw [e1] at HC
  rw [e2] at HS
  rw [e3] at HQ
  rw [e4] at HB
  clear e1 e2 e3 e4
  obtain ⟨hc, ho⟩ := hm
  have hc' := hc
  obtain ⟨⟨a1, a2⟩, ⟨a3, a4⟩, a5, a6⟩ := hc'
  have hM := mul_in s n ⟨a1, a2⟩ ⟨a3, a4⟩
  have hN0 : 0 ≤ s * n := Int.mul_nonneg (by omega) (by omega)
  have hN1 : s * n ≤ 16 * 30 := Int.mul_le_mul (by omega) (by omega) (by omega) (by omega)
  have f1 : s * (n + 1) = s * n + s := by rw [Int.mul_add, Int.mul_one]
  have f2 : (s - 2) * n = s * n - 2 * n := Int.sub_mul _ _ _
  have f3 : (s - 1) * (n + 2) = s * n - n + (2 * s - 2) := by rw [Int.sub_mul, Int.mul_add, Int.one_mul]; omega
  obtain ⟨N, hN⟩ : ∃ N, N = s * n := ⟨_, rfl⟩
  obtain ⟨M, hMe⟩ : ∃ M, M = (s - 2) * n := ⟨_, rfl⟩
  have g1 : wrap64 (s * n) = N := by rw [hN]; exact IntWalk.wrap64_in _ (by omega)
  rw [← hN] at f1 f2 f3 hN0 hN1
  rw [← hMe] at hM f2
  have g2 : wrap64 (wrap64 (N + s) + 2) = 2 + s * (n + 1) := by
    rw [IntWalk.wrap64_in (N + s) (by omega), IntWalk.wrap64_in (N + s + 2) (by omega), f1]; omega
  have g3 : wrap64 (N - wrap64 (2 * n)) = M := by
    rw [IntWalk.wrap64_in (2 * n) (by omega), IntWalk.wrap64_in (N - 2 * n) (by omega)]; exact f2.symm
  have g5 : wrap64 (wrap64 (3 * N) - wrap64 (3 * n)) = 3 * N - 3 * n := by
    rw [IntWalk.wrap64_in (3 * N) (by omega), IntWalk.wrap64_in (3 * n) (by omega), IntWalk.wrap64_in (3 * N - 3 * n) (by omega)]
  have p2 : decide (3 * (1 + (s - 1) * (n + 2)) ≥ 3 * N - 3 * n) = true := decide_eq_true (by rw [f3]; omega)
  have sE0 := shE_of x0 M ho hM.1 (by omega)
  have hl := F.share_le x0 M sE0
  rw [← hMe] at HQ
  have p0 : decide (((F.shV x0 M : Nat) : Int) < 0) = false := decide_eq_false (by omega)
  have p1 : decide (((F.shV x0 M : Nat) : Int) > M) = false := decide_eq_false (by omega)
  have o1 : okX 4607182418800017408 := Or.inl (Nat.le_refl _)
  have HL := Lib.hid (fun W => Quota_v s n r 4607182418800017408 W (by omega))
  have e5 : quoV s n r 4607182418800017408 = M := by
    unfold quoV; rw [if_pos ⟨hc, o1⟩, ← hMe]; exact (F.share_one M hM.1 (by omega)).2
  rw [e5] at HL
  have HD := Lib.hid (fun W => Conf_v s n r x W hx)
  have HE := Lib.hid (fun W => Quota_v s n r x W hx)
  have hk : KindC 21 x ((F.kindB x : Nat) : Int) := Lib.hid (fun W => rKind_val x W hx)
  by_cases hox : okX x
  · have e6 : cE s n r x = 0 := by unfold cE; rw [if_pos ⟨hc, hox⟩]
    have e7 : quoV s n r x = ((F.shV x M : Nat) : Int) := by unfold quoV; rw [if_pos ⟨hc, hox⟩, ← hMe]
    rw [e6] at HD
    rw [e7] at HE
    have le := leq_ok x hox
    have kk : decide (((F.kindB x : Nat) : Int) ≥ 3) = true ∧ decide (((F.kindB x : Nat) : Int) ≤ 5) = true := by
      rcases kind_ok x hx with ⟨k, _⟩ | ⟨k, _⟩ | ⟨k, _, _⟩ | ⟨_, o⟩
      · rw [k]; decide
      · rw [k]; decide
      · rw [k]; decide
      · exact absurd hox o
    rcases two_tf (FloatKind.f64.format.order x x0 == some .lt) with lt | lt
    · exact quota_lt s n r _ _ _ _ _ _ _ 0 0 _ x0 x w g1 g2 g3 g5 p0 p1 p2 kk.1 kk.2 le lt HC HS HQ HB HL HD HE hk
    · have lq := not_lt_leq x x0 hx hx0 (okX_num x hox) (okX_num x0 ho) lt
      have sg := F.share_grow x0 x M hx0 hx lq sE0 (shE_of x M hox hM.1 (by omega))
      exact quota_ge s n r _ _ _ _ _ _ _ 0 0 _ x0 x w g1 g2 g3 g5 p0 p1 p2 kk.1 kk.2 le lt (decide_eq_true (Int.ofNat_le.2 sg)) HC HS HQ HB HL HD HE hk
  · have e6 : cE s n r x = 1 := by unfold cE; rw [if_neg (fun c : may s n r x => hox c.2)]
    rw [e6] at HD
    rcases kind_ok x hx with ⟨_, o⟩ | ⟨_, o⟩ | ⟨k, h1, o⟩ | ⟨k, _⟩
    · exact absurd o hox
    · exact absurd o hox
    · rw [k] at hk
      have le := leq_one x h1
      rw [decide_eq_false (fun c => hox (o.2 c))] at le
      exact quota_kx s n r _ _ _ _ _ _ _ 0 0 _ x0 x w g1 g2 g3 g5 p0 p1 p2 (by decide) (by decide) le HC HS HQ HB HL HD HE hk
    · rcases k with k | k
      · exact quota_k3 s n r _ _ _ _ _ _ _ 0 0 _ x0 x w g1 g2 g3 g5 p0 p1 p2 (decide_eq_false (by omega)) HC HS HQ HB HL HD HE hk
      · rw [k] at hk
        exact quota_k6 s n r _ _ _ _ _ _ _ 0 0 _ x0 x w g1 g2 g3 g5 p0 p1 p2 (by decide) (by decide) HC HS HQ HB HL HD HE hk

theorem CheckQuota_walk (v0 : Value) (a1 : Nat) (w : World) (o0 : Row.Opn Try.prog w 24 v0) (w1 : (Lit.float .f64 a1).wf = true) :
    Calls Try.prog 5 #[v0, .float .f64 a1] w fun e w' => e = .returned (.bool true) ∧ Below w.heap.size w w' := by
  obtain ⟨s, n, r, x0, rfl, hx0⟩ := open_conf o0
  have w1 : a1 < 18446744073709551616 := by simpa [Lit.wf] using w1
  exact quota_main s n r x0 a1 w hx0 w1
end Go.Proofs.Ytpnehpkecfbneaa.L
