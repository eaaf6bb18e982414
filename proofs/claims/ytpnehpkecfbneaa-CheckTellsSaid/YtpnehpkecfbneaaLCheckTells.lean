/- CheckTells: whatever the id, the value and the conf, the law answers true. No condition. -/
import Derived.Test.YtpnehpkecfbneaaHr
import Derived.Test.YtpnehpkecfbneaaHs
import Derived.Test.YtpnehpkecfbneaaGOpn
import Derived.Test.YtpnehpkecfbneaaGFast
import Derived.BigQuiet
namespace Go.Proofs.Ytpnehpkecfbneaa.L
open Go.RowKit Go.Proofs.Ytpnehpkecfbneaa.G
set_option linter.unusedVariables false
set_option linter.unusedSimpArgs false

theorem bel {P : Program} {f : FuncId} {a : Array Value} {w : World} {r : Value} (h : Calls P f a w fun e w' => e = .returned r ∧ w = w') : Calls P f a w fun e w' => e = .returned r ∧ Below w.heap.size w w' :=
  h.mono (fun e w1 h => ⟨h.1, by rw [← h.2]; exact Below.refl _ _⟩)
theorem min2 {P : Program} (ats : Array TypeId) (ty : TypeId) (a b : Int) (W : World) :
    (Builtin.min_ ats ty #[.int .i64 a, .int .i64 b]).run P W = .ok (.int .i64 (min a b)) W := by
  have h : ∀ x y : Int, (if y < x then y else x) = min x y := by intro x y; split <;> omega
  simp [Builtin.min_, Builtin.min2, List.foldlM_cons, List.foldlM_nil, h]
theorem open_conf {w : World} {v : Value} (o : Row.Opn Try.prog w 24 v) : ∃ (s n r : Int) (x : Nat), v = .agg #[.int .i64 s, .int .i64 n, .float .f64 x, .int .i64 r] ∧ x < 18446744073709551616 := by
  obtain ⟨⟨m, ho⟩, b, hk⟩ := o
  have hu := Try.underlying24
  obtain ⟨hl, hf⟩ := Row.opn_struct ho hu
  simp only [Value.okWide] at hk
  rw [hu] at hk
  obtain ⟨cs, rfl, hsz, _⟩ := hk
  simp only [Value.cells] at hl hf
  have h4 : cs.toList.length = 4 := hl.trans (by kernel_rfl)
  have k1 : Try.prog.cellsOf 3 = 1 := by kernel_rfl
  have k2 : Try.prog.cellsOf 22 = 1 := by kernel_rfl
  obtain ⟨l, hcl⟩ : ∃ l, cs = l.toArray := ⟨cs.toList, by simp⟩
  subst hcl
  simp only [List.toList_toArray] at hf h4
  match l, h4 with
  | [x0, x1, x2, x3], _ =>
    have f0 : Row.opn Try.prog w (m - 1) 3 [x0] := by
      have h : Row.opn Try.prog w (m - 1) 3 (([x0, x1, x2, x3].drop 0).take (Try.prog.cellsOf 3)) := hf 0 _ rfl
      rw [k1] at h; exact h
    have f1 : Row.opn Try.prog w (m - 1) 3 [x1] := by
      have h : Row.opn Try.prog w (m - 1) 3 (([x0, x1, x2, x3].drop 1).take (Try.prog.cellsOf 3)) := hf 1 _ rfl
      rw [k1] at h; exact h
    have f2 : Row.opn Try.prog w (m - 1) 22 [x2] := by
      have h : Row.opn Try.prog w (m - 1) 22 (([x0, x1, x2, x3].drop 2).take (Try.prog.cellsOf 22)) := hf 2 _ rfl
      rw [k2] at h; exact h
    have f3 : Row.opn Try.prog w (m - 1) 3 [x3] := by
      have h : Row.opn Try.prog w (m - 1) 3 (([x0, x1, x2, x3].drop 3).take (Try.prog.cellsOf 3)) := hf 3 _ rfl
      rw [k1] at h; exact h
    obtain ⟨z0, e0, _⟩ := Row.opn_int f0 Try.underlying3
    obtain ⟨z1, e1, _⟩ := Row.opn_int f1 Try.underlying3
    obtain ⟨z2, e2, w2⟩ := Row.opn_float f2 Try.underlying22
    obtain ⟨z3, e3, _⟩ := Row.opn_int f3 Try.underlying3
    cases e0; cases e1; cases e2; cases e3
    refine ⟨z0, z1, z3, z2, rfl, ?_⟩
    simpa [Lit.wf] using w2


set_option maxRecDepth 100000 in
set_option maxHeartbeats 2000000 in
theorem tells_main (a b : ByteArray) (s n r : Int) (x : Nat) (w : World) (ha : a.size ≤ 140737488351232) (hb : b.size ≤ 140737488351232) (hx : x < 18446744073709551616) :
    Calls Try.prog 3 #[.string a, .string b, .agg #[.int .i64 s, .int .i64 n, .float .f64 x, .int .i64 r]] w fun e w' => e = .returned (.bool true) ∧ Below w.heap.size w w' := by
  obtain ⟨k0, hk0⟩ : ∃ k, k = min a.size 100 := ⟨_, rfl⟩
  obtain ⟨k1, hk1⟩ : ∃ k, k = min b.size 100 := ⟨_, rfl⟩
  have hmin0 : ∀ W, (Builtin.min_ #[3, 3] 3 #[.int .i64 (a.size : Int), .int .i64 100]).run Try.prog W = .ok (.int .i64 (k0 : Int)) W := by
    intro W
    rw [min2, show min (a.size : Int) 100 = (k0 : Int) from by omega]
  have hmin1 : ∀ W, (Builtin.min_ #[3, 3] 3 #[.int .i64 (b.size : Int), .int .i64 100]).run Try.prog W = .ok (.int .i64 (k1 : Int)) W := by
    intro W
    rw [min2, show min (b.size : Int) 100 = (k1 : Int) from by omega]
  have hks0 : ¬ (a.size : Int) < (k0 : Int) := by omega
  have hks1 : ¬ (b.size : Int) < (k1 : Int) := by omega
  have hp : (a.extract 0 k0).size ≤ 140737488351232 := by rw [ByteArray.size_extract]; omega
  have hq : (b.extract 0 k1).size ≤ 140737488351232 := by rw [ByteArray.size_extract]; omega
  have I1 := Lib.hid (fun W => bel (ID_val (a.extract 0 k0) W (idB (a.extract 0 k0)) hp (Lib.hid rfl)))
  have I2 := Lib.hid (fun W => bel (rID_val (a.extract 0 k0) W (idB (a.extract 0 k0)) hp (Lib.hid rfl)))
  have V1 := Lib.hid (fun W => bel (Value_val (b.extract 0 k1) W (valB (b.extract 0 k1)) (Lib.hid rfl)))
  have V2 := Lib.hid (fun W => bel (rValue_val (b.extract 0 k1) W (valB (b.extract 0 k1)) (Lib.hid rfl)))
  obtain ⟨iz, hiz⟩ : ∃ z, z = idB (a.extract 0 k0) := ⟨_, rfl⟩
  obtain ⟨vz, hvz⟩ : ∃ z, z = valB (b.extract 0 k1) := ⟨_, rfl⟩
  rw [← hiz] at I1 I2
  rw [← hvz] at V1 V2
  have C1 := Lib.hid (fun W => Conf_v s n r x W hx)
  have C2 := Lib.hid (fun W => rConf_v s n r x W hx)
  obtain ⟨zC, hzC⟩ : ∃ z, z = cE s n r x := ⟨_, rfl⟩
  rw [← hzC] at C1 C2
  have S1 := Lib.hid (fun W => Sectors_v s n r x W hx)
  have S2 := Lib.hid (fun W => rSectors_v s n r x W hx)
  obtain ⟨zS, hzS⟩ : ∃ z, z = secV s n r x := ⟨_, rfl⟩
  rw [← hzS] at S1 S2
  have Q1 := Lib.hid (fun W => Quota_v s n r x W hx)
  have Q2 := Lib.hid (fun W => rQuota_v s n r x W hx)
  obtain ⟨zQ, hzQ⟩ : ∃ z, z = quoV s n r x := ⟨_, rfl⟩
  rw [← hzQ] at Q1 Q2
  have B1 := Lib.hid (fun W => Bound_v s n r x W hx)
  have B2 := Lib.hid (fun W => rBound_v s n r x W hx)
  obtain ⟨zB, hzB⟩ : ∃ z, z = bouV s n r x := ⟨_, rfl⟩
  rw [← hzB] at B1 B2
  clear hzC hzS hzQ hzB hiz hvz hp hq hk0 hk1 ha hb hx
  obtain ⟨W, hW⟩ : ∃ W, W = w.alloc (.cells #[.int .i64 s, .int .i64 n, .float .f64 x, .int .i64 r] 24) := ⟨_, rfl⟩
  have hbl : Below w.heap.size w W := by rw [hW]; exact (Below.refl _ _).alloc (Nat.le_refl _) _
  have hn : W.heap[w.heap.size]? = some (.cells #[.int .i64 s, .int .i64 n, .float .f64 x, .int .i64 r] 24 (0, 0)) := by rw [hW]; exact heap_alloc_new _ _
  obtain ⟨c0, c1, c2, c3⟩ := cells4 hn
  have b0 := cell_regrown c0
  have b1 := cell_regrown c1
  have b2 := cell_regrown c2
  have b3 := cell_regrown c3
  have HW := Lib.hid hW
  have HB := Lib.hid hbl
  clear hW hbl hn c0 c1 c2 c3
  go_enter Try.func3, Try.ntmps3
  go_wp2_with fail
  obtain ⟨p, hp⟩ : ∃ p, p = a.extract 0 k0 := ⟨_, rfl⟩
  obtain ⟨q, hq⟩ : ∃ q, q = b.extract 0 k1 := ⟨_, rfl⟩
  rw [← hp] at I1 I2
  rw [← hq] at V1 V2
  simp only [← hp, ← hq]
  clear hp hq hmin0 hmin1 hks0 hks1
  rw [← HW.out]
  refine Loose.wp_region_quiet_fast (by kernel_rfl) (by kernel_rfl) ?_
  (try simp only [List.append_eq, List.cons_append, List.nil_append])
  repeat (go_big_quiet_step (fail))
  go_big_quiet_step ((go_at_call 8; exact Calls.regrown_of (I1.out _)))
  repeat (go_big_quiet_step (fail))
  go_big_quiet_step ((go_at_call 9; exact Calls.regrown_of (I2.out _)))
  repeat (go_big_quiet_step (fail))
  go_big_quiet_step ((go_at_call 10; exact Calls.regrown_of (V1.out _)))
  repeat (go_big_quiet_step (fail))
  go_big_quiet_step ((go_at_call 11; exact Calls.regrown_of (V2.out _)))
  repeat (go_big_quiet_step (fail))
  go_big_quiet_step ((go_at_call 12; exact Calls.regrown_of (C1.out _)))
  repeat (go_big_quiet_step (fail))
  go_big_quiet_step ((go_at_call 13; exact Calls.regrown_of (C2.out _)))
  repeat (go_big_quiet_step (fail))
  go_big_quiet_step ((go_at_call 14; exact Calls.regrown_of (S1.out _)))
  repeat (go_big_quiet_step (fail))
  go_big_quiet_step ((go_at_call 15; exact Calls.regrown_of (S2.out _)))
  repeat (go_big_quiet_step (fail))
  go_big_quiet_step ((go_at_call 16; exact Calls.regrown_of (Q1.out _)))
  repeat (go_big_quiet_step (fail))
  go_big_quiet_step ((go_at_call 17; exact Calls.regrown_of (Q2.out _)))
  repeat (go_big_quiet_step (fail))
  go_big_quiet_step ((go_at_call 18; exact Calls.regrown_of (B1.out _)))
  repeat (go_big_quiet_step (fail))
  go_big_quiet_step ((go_at_call 19; exact Calls.regrown_of (B2.out _)))
  repeat (go_big_quiet_step (fail))
  go_big_quiet_step ((go_at_call 20; exact Calls.regrown_of (fixed_val _)))
  repeat (go_big_quiet_step (fail))
  refine wpQuiet_nil ?_
  intro _ hw'
  obtain ⟨⟨dq, osq⟩, hw''⟩ := hw'
  subst hw''
  go_wp2_with fail
  go_ret
  exact ⟨rfl, below_step HB.out (below_regrown _ dq osq)⟩

theorem CheckTells_walk (a0 a1 : ByteArray) (v2 : Value) (w : World) (w0 : a0.size ≤ 140737488351232) (w1 : a1.size ≤ 140737488351232) (o2 : Row.Opn Try.prog w 24 v2) :
    Calls Try.prog 3 #[.string a0, .string a1, v2] w fun e w' => e = .returned (.bool true) ∧ Below w.heap.size w w' := by
  obtain ⟨s, n, r, x, rfl, hx⟩ := open_conf o2
  exact tells_main a0 a1 s n r x w w0 w1 hx
end Go.Proofs.Ytpnehpkecfbneaa.L
