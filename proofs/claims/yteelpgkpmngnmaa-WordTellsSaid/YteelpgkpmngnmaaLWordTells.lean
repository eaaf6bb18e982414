/- WordTells: whatever the numbers, the size and the bytes, the law answers true. No condition. -/
import Derived.Test.YteelpgkpmngnmaaGWord3
import Derived.Test.YteelpgkpmngnmaaGOpn
namespace Go.Proofs.Yteelpgkpmngnmaa.L
open Go.RowKit Go.Proofs.Yteelpgkpmngnmaa.G Go.Proofs.Yteelpgkpmngnmaa.WordPlain
set_option linter.unusedVariables false
set_option linter.unusedSimpArgs false

theorem grows {f : FuncId} {args : Array Value} {w : World} {v : Value} (h : Calls Try.prog f args w fun e w' => e = .returned v ∧ w = w') : Calls Try.prog f args w fun e w' => e = .returned v ∧ Below w.heap.size w w' :=
  h.mono fun e w' ⟨h1, h2⟩ => ⟨h1, by rw [← h2]; exact Below.refl _ _⟩
theorem u64_wf (a : Int) (h : (Lit.int .u64 a).wf = true) : ∃ n : Nat, a = n ∧ n < 18446744073709551616 := by
  have b : 0 ≤ a ∧ a < 18446744073709551616 := by
    simp [Lit.wf, IntKind.min, IntKind.max, IntKind.bits, IntKind.signed] at h
    omega
  obtain ⟨n, rfl⟩ := Int.eq_ofNat_of_zero_le b.1
  exact ⟨n, rfl, by omega⟩

theorem open_bytes {w : World} {v : Value} (o : Row.Opn Try.prog w 24 v) : ∃ (n : Int) (s : ByteArray), v = .agg #[.int .i64 n, .string s] ∧ s.size ≤ 140737488351232 := by
  obtain ⟨⟨n, ho⟩, b, hk⟩ := o
  have hu := Try.underlying24
  obtain ⟨hl, hf⟩ := Row.opn_struct ho hu
  simp only [Value.okWide] at hk
  rw [hu] at hk
  obtain ⟨cs, rfl, hsz, _⟩ := hk
  simp only [Value.cells] at hl hf
  have h2 : cs.toList.length = 2 := hl.trans (by kernel_rfl)
  have f0 : Row.opn Try.prog w (n - 1) 3 ((cs.toList.drop 0).take (Try.prog.cellsOf 3)) := hf 0 _ rfl
  have f1 : Row.opn Try.prog w (n - 1) 9 ((cs.toList.drop 1).take (Try.prog.cellsOf 9)) := hf 1 _ rfl
  obtain ⟨z, hz, _⟩ := Row.opn_int f0 Try.underlying3
  obtain ⟨s, hs, hb⟩ := Row.opn_string f1 Try.underlying9
  have c1 : Try.prog.cellsOf 3 = 1 := by kernel_rfl
  have c2 : Try.prog.cellsOf 9 = 1 := by kernel_rfl
  simp only [c1] at hz
  simp only [c2] at hs
  obtain ⟨l, hcl⟩ : ∃ l, cs = l.toArray := ⟨cs.toList, by simp⟩
  subst hcl
  simp only [List.toList_toArray] at hz hs h2
  match l, h2 with
  | [x, y], _ =>
    simp at hz hs
    subst hz; subst hs
    exact ⟨_, _, rfl, hb⟩

set_option maxRecDepth 100000 in
set_option maxHeartbeats 4000000 in
theorem tells_walk (a b : Nat) (n : Int) (s : ByteArray) (w : World) (ha : a < 18446744073709551616) (hb : b < 18446744073709551616) (hs : s.size ≤ 140737488351232) :
    Calls Try.prog 3 #[.int .u64 a, .int .u64 b, .agg #[.int .i64 n, .string s]] w fun e w' => e = .returned (.bool true) ∧ Below w.heap.size w w' := by
  obtain ⟨c, hc⟩ : ∃ c, Hid (c = addV a b) := ⟨_, rfl⟩
  obtain ⟨d, hd⟩ : ∃ c, Hid (c = addO a b) := ⟨_, rfl⟩
  obtain ⟨g, hg⟩ : ∃ c, Hid (c = mulV a b) := ⟨_, rfl⟩
  obtain ⟨h, hh⟩ : ∃ c, Hid (c = mulO a b) := ⟨_, rfl⟩
  obtain ⟨p, hp⟩ : ∃ c, Hid (c = wput a (zc n)) := ⟨_, rfl⟩
  obtain ⟨q, hq⟩ : ∃ c, Hid (c = wget s) := ⟨_, rfl⟩
  obtain ⟨r, hr⟩ : ∃ c, Hid (c = a - b) := ⟨_, rfl⟩
  go_enter Try.func3, Try.ntmps3
  go_wp2_with fail
  refine (Add_val a b c d _ ha hb hc hd).mono ?_; rintro e w1 ⟨rfl, rfl⟩
  go_wp2_with fail
  refine (rAdd_val a b c d _ ha hb hc hd).mono ?_; rintro e w1 ⟨rfl, rfl⟩
  go_wp2_with fail
  refine (Mul_val a b g h _ ha hb hg hh).mono ?_; rintro e w1 ⟨rfl, rfl⟩
  go_wp2_with fail
  refine (rMul_val a b g h _ ha hb hg hh).mono ?_; rintro e w1 ⟨rfl, rfl⟩
  go_wp2_with fail
  obtain ⟨W, hW⟩ : ∃ W, W = w.alloc (Obj.cells #[Value.int IntKind.i64 n, Value.string s] 24) := ⟨_, rfl⟩
  have hblk : W.heap[w.heap.size]? = some (.cells #[Value.int IntKind.i64 n, Value.string s] 24 (0, 0)) := by rw [hW]; exact heap_alloc_new _ _
  have hbel : Below w.heap.size w W := by rw [hW]; exact (Below.refl _ _).alloc (Nat.le_refl _) _
  have c0 : ∀ d os, (Sort.grow (redrawn W d) os).cell? ⟨w.heap.size, 0, none⟩ = some (.int .i64 n) := cell_regrown ((cell_of_row W w.heap.size 0 _ _ _ hblk).trans rfl)
  have c1 : ∀ d os, (Sort.grow (redrawn W d) os).cell? ⟨w.heap.size, 1, none⟩ = some (.string s) := cell_regrown ((cell_of_row W w.heap.size 1 _ _ _ hblk).trans rfl)
  rw [← hW]
  clear hW hblk
  refine wp_region_quiet_below (by kernel_rfl) (by kernel_rfl) ?_
  repeat (quiet_step (fail))
  quiet_step ((go_at_call 14; exact Calls.regrown_of (Put_val a n _ p ha hp)))
  repeat (quiet_step (fail))
  quiet_step ((go_at_call 15; exact Calls.regrown_of (rPut_val a n _ p ha hp)))
  repeat (quiet_step (fail))
  quiet_step ((go_at_call 16; exact Calls.regrown_of (Get_val s _ q hq)))
  repeat (quiet_step (fail))
  quiet_step ((go_at_call 17; exact Calls.regrown_of (grows (rGet_val s _ q (by omega) hq))))
  repeat (quiet_step (fail))
  quiet_step ((go_at_call 18; exact Calls.regrown_of (grows (Less_val a b r _ ha hr))))
  repeat (quiet_step (fail))
  quiet_step ((go_at_call 19; exact Calls.regrown_of (grows (rLess_val a b r _ ha hr))))
  repeat (quiet_step (fail))
  quiet_step ((go_at_call 20; exact Calls.regrown_of (fixed_val _)))
  repeat (quiet_step (fail))
  refine wpQuiet_nil ?_
  intro _ hw'
  obtain ⟨⟨dq, osq⟩, hw''⟩ := hw'
  subst hw''
  go_wp2_with fail
  go_ret
  exact ⟨rfl, below_step hbel (below_regrown W dq osq)⟩

theorem WordTells_walk (a0 a1 : Int) (v2 : Value) (w : World) (w0 : (Lit.int .u64 a0).wf = true) (w1 : (Lit.int .u64 a1).wf = true) (o2 : Row.Opn Try.prog w 24 v2) :
    Calls Try.prog 3 #[.int .u64 a0, .int .u64 a1, v2] w fun e w' => e = .returned (.bool true) ∧ Below w.heap.size w w' := by
  obtain ⟨a, rfl, ha⟩ := u64_wf a0 w0
  obtain ⟨b, rfl, hb⟩ := u64_wf a1 w1
  obtain ⟨n, s, rfl, hs⟩ := open_bytes o2
  exact tells_walk a b n s w ha hb hs
end Go.Proofs.Yteelpgkpmngnmaa.L
