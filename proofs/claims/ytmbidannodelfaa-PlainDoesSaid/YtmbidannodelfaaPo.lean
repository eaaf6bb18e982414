/- Requests with short texts; lists of requests and times that are handed in. -/
import Derived.Test.YtmbidannodelfaaPh
import Derived.Test.YtmbidannodelfaaGOpn
namespace Go.Proofs.Ytmbidannodelfaa.G
open Go.RowKit Go.Maps Go.Proofs.Ytmbidannodelfaa.WordPlain Go.Proofs.Ytmbidannodelfaa.Loose
set_option linter.unusedVariables false
set_option linter.unusedSimpArgs false

theorem run_min2P {P : Program} (ats : Array TypeId) (ty : TypeId) (a b : Int) (W : World) : (Builtin.min_ ats ty #[.int .i64 a, .int .i64 b]).run P W = .ok (.int .i64 (min a b)) W := by
  have h : ∀ x y : Int, (if y < x then y else x) = min x y := by intro x y; split <;> omega
  simp [Builtin.min_, Builtin.min2, List.foldlM_cons, List.foldlM_nil, h]
theorem store_floatP (a : Addr) (k : Nat) (m : Mode) (W : World) : (store a (.float .f64 k) m).run Try.prog W = stored Try.prog W a (.float .f64 k) m := run_store _ W a _ m rfl
/-- with texts of at most 80 bytes -/
def Rq.cut (r : Rq) : Rq := { r with id := r.id.extract 0 (min r.id.size 80), va := r.va.extract 0 (min r.va.size 80) }
theorem Rq.Kind.cut {r : Rq} (h : r.Kind) : r.cut.Kind :=
  ⟨h.kind, by show (r.id.extract 0 _).size ≤ _; rw [ByteArray.size_extract]; omega, by show (r.va.extract 0 _).size ≤ _; rw [ByteArray.size_extract]; omega, h.ttl⟩
set_option maxRecDepth 100000 in
theorem CutR_form (k : Int) (i v : ByteArray) (t ki kv : Nat) (w : World) (hki : ki = min i.size 80) (hkv : kv = min v.size 80) :
    Calls Try.prog 10 #[.agg #[.int .i64 k, .string i, .string v, .float .f64 t]] w fun e w' => e = .returned (.agg #[.int .i64 k, .string (i.extract 0 ki), .string (v.extract 0 kv), .float .f64 t]) ∧ Below w.heap.size w w' := by
  have s1 : ∀ W : World, (Instr.slice 9 (.string i) none (some (.int .i64 (ki : Int))) none).run Try.prog W = .ok (.string (i.extract 0 ki)) W := by
    intro W
    rw [run_slice_string_h W _ _ Try.underlying9 .i64 (ki : Int) (by omega) (by omega), Int.toNat_natCast]
  have s2 : ∀ W : World, (Instr.slice 9 (.string v) none (some (.int .i64 (kv : Int))) none).run Try.prog W = .ok (.string (v.extract 0 kv)) W := by
    intro W
    rw [run_slice_string_h W _ _ Try.underlying9 .i64 (kv : Int) (by omega) (by omega), Int.toNat_natCast]
  have m1 : ∀ W, (Builtin.min_ #[3, 3] 3 #[.int .i64 (i.size : Int), .int .i64 80]).run Try.prog W = .ok (.int .i64 (ki : Int)) W := by
    intro W
    rw [run_min2P, show min (i.size : Int) 80 = (ki : Int) from by omega]
  have m2 : ∀ W, (Builtin.min_ #[3, 3] 3 #[.int .i64 (v.size : Int), .int .i64 80]).run Try.prog W = .ok (.int .i64 (kv : Int)) W := by
    intro W
    rw [run_min2P, show min (v.size : Int) 80 = (kv : Int) from by omega]
  have hi' : ¬ (i.size : Int) < (ki : Int) := by omega
  have hv' : ¬ (v.size : Int) < (kv : Int) := by omega
  have sfl := store_floatP
  obtain ⟨x, hx⟩ : ∃ x, x = (i.extract 0 ki) := ⟨_, rfl⟩
  obtain ⟨y, hy⟩ : ∃ y, y = (v.extract 0 kv) := ⟨_, rfl⟩
  rw [← hx] at s1 ⊢
  rw [← hy] at s2 ⊢
  clear hki hkv hx hy
  go_enter Try.func10, Try.ntmps10
  go_wp2_with fail
  have h := (two_newP w (.cells #[.int .i64 k, .string x, .string y, .float .f64 t] 32) (.cells #[.int .i64 k, .string x, .string y, .float .f64 t] 32)).2
  have hs := alloc_sizeR w (.cells #[.int .i64 k, .string x, .string y, .float .f64 t] 32)
  refine bodyPost_ret (v := .agg #[.int .i64 k, .string x, .string y, .float .f64 t]) ?_ rfl ⟨rfl, ?_⟩
  · exact results_cell_row (p := 2) (ty := 32) rfl _ _ (w.heap.size + 1) 32 _ (0, 0) _ rfl h Try.underlying32 rfl (by kernel_rfl)
  · exact ((Below.refl _ _).alloc (Nat.le_refl _) _).alloc (by rw [hs]; omega) _
theorem CutR_val (r : Rq) (w : World) : Calls Try.prog 10 #[.agg r.row] w fun e w' => e = .returned (.agg r.cut.row) ∧ Below w.heap.size w w' :=
  CutR_form r.kind r.id r.va r.ttl _ _ w rfl rfl

/-- a request, and how much time goes on -/
structure Og where
  r : Rq
  t : Nat
abbrev encO (o : Og) : List Value := [.int .i64 o.r.kind, .string o.r.id, .string o.r.va, .float .f64 o.r.ttl, .int .u64 (o.t : Int)]
structure Og.Kind (o : Og) : Prop where
  r : o.r.Kind
  t : o.t < 18446744073709551616
theorem spot_of_cellP {w : World} {a : Addr} {v : Value} (h : w.cell? a = some v) : a.spot = none := by
  unfold World.cell? at h
  split at h
  · split at h
    · cases h
    · rename_i h2; cases hq : a.spot with
      | none => rfl
      | some x => rw [hq] at h2; simp at h2
  · cases h
theorem f64_wfP (a : Nat) (h : (Lit.float .f64 a).wf = true) : a < 18446744073709551616 := by
  simpa [Lit.wf] using h
set_option maxRecDepth 100000 in
theorem rq_of_opn {w : World} {n : Nat} {cs : List Value} (h : Row.opn Try.prog w n 32 cs) : ∃ r : Rq, cs = r.row.toList ∧ r.Kind := by
  obtain ⟨hl, hg⟩ := Row.opn_struct h Try.underlying32
  have h4 : cs.length = 4 := hl.trans (by kernel_rfl)
  have ki : Try.prog.cellsOf 3 = 1 := by kernel_rfl
  have kf : Try.prog.cellsOf 30 = 1 := by kernel_rfl
  have ks : Try.prog.cellsOf 9 = 1 := by kernel_rfl
  match cs, h4 with
  | [x1, x2, x3, x4], _ =>
    have g0 : Row.opn Try.prog w (n - 1) 3 [x1] := by
      have h : Row.opn Try.prog w (n - 1) 3 (([x1, x2, x3, x4].drop 0).take (Try.prog.cellsOf 3)) := hg 0 _ rfl
      rw [ki] at h; exact h
    have g1 : Row.opn Try.prog w (n - 1) 9 [x2] := by
      have h : Row.opn Try.prog w (n - 1) 9 (([x1, x2, x3, x4].drop 1).take (Try.prog.cellsOf 9)) := hg 1 _ rfl
      rw [ks] at h; exact h
    have g2 : Row.opn Try.prog w (n - 1) 9 [x3] := by
      have h : Row.opn Try.prog w (n - 1) 9 (([x1, x2, x3, x4].drop 2).take (Try.prog.cellsOf 9)) := hg 2 _ rfl
      rw [ks] at h; exact h
    have g3 : Row.opn Try.prog w (n - 1) 30 [x4] := by
      have h : Row.opn Try.prog w (n - 1) 30 (([x1, x2, x3, x4].drop 3).take (Try.prog.cellsOf 30)) := hg 3 _ rfl
      rw [kf] at h; exact h
    obtain ⟨z1, e1, w1⟩ := Row.opn_int g0 Try.underlying3
    obtain ⟨s2, e2, w2⟩ := Row.opn_string g1 Try.underlying9
    obtain ⟨s3, e3, w3⟩ := Row.opn_string g2 Try.underlying9
    obtain ⟨z4, e4, w4⟩ := Row.opn_float g3 Try.underlying30
    cases e1; cases e2; cases e3; cases e4
    exact ⟨⟨z1, s2, s3, z4⟩, rfl, ⟨i64_wf _ w1, w2, w3, f64_wfP _ w4⟩⟩
set_option maxRecDepth 100000 in
theorem op_of_opn {w : World} {n : Nat} {cs : List Value} (h : Row.opn Try.prog w n 35 cs) : ∃ o : Og, cs = encO o ∧ o.Kind := by
  obtain ⟨hl, hg⟩ := Row.opn_struct h Try.underlying35
  have h5 : cs.length = 5 := hl.trans (by kernel_rfl)
  have ku : Try.prog.cellsOf 22 = 1 := by kernel_rfl
  have kr : Try.prog.cellsOf 32 = 4 := by kernel_rfl
  match cs, h5 with
  | [x1, x2, x3, x4, x5], _ =>
    have g0 : Row.opn Try.prog w (n - 1) 32 [x1, x2, x3, x4] := by
      have h : Row.opn Try.prog w (n - 1) 32 (([x1, x2, x3, x4, x5].drop 0).take (Try.prog.cellsOf 32)) := hg 0 _ rfl
      rw [kr] at h; exact h
    have g1 : Row.opn Try.prog w (n - 1) 22 [x5] := by
      have h : Row.opn Try.prog w (n - 1) 22 (([x1, x2, x3, x4, x5].drop 4).take (Try.prog.cellsOf 22)) := hg 1 _ rfl
      rw [ku] at h; exact h
    obtain ⟨r, hr, hk⟩ := rq_of_opn g0
    obtain ⟨z5, e5, w5⟩ := Row.opn_int g1 Try.underlying22
    obtain ⟨m5, rfl, h5⟩ := u64_wf _ w5
    cases e5
    have hr' : [x1, x2, x3, x4] = [.int .i64 r.kind, .string r.id, .string r.va, .float .f64 r.ttl] := hr
    injection hr' with a1 hr'
    injection hr' with a2 hr'
    injection hr' with a3 hr'
    injection hr' with a4 hr'
    subst a1 a2 a3 a4
    exact ⟨⟨r, m5⟩, rfl, ⟨hk, h5⟩⟩
set_option maxRecDepth 100000 in
theorem ops_of_opn {w : World} {n : Nat} {v : Value} (h : Row.opn Try.prog w n 23 [v]) : ∃ l : List Og, LR 5 encO w v l ∧ (∀ o ∈ l, o.Kind) ∧ l.length ≤ 140737488351232 := by
  have c1 : Try.prog.cellsOf 35 = 5 := by kernel_rfl
  have b1 : 1 ≤ Try.prog.bytesOf 35 := by rw [show Try.prog.bytesOf 35 = 56 by kernel_rfl]; decide
  rcases Row.opn_slice h Try.underlying23 with hv | ⟨a, len, cap, hv, hle, hby, hel⟩
  · cases hv
    exact ⟨[], LR.nil _ _ _ _ _, by simp, by simp⟩
  · cases hv
    rw [c1] at hel
    have hlen : len ≤ 140737488351232 := Nat.le_trans hle (Nat.le_trans (Nat.le_mul_of_pos_right cap b1) hby)
    by_cases h0 : len = 0
    · subst h0
      exact ⟨[], LR.nil _ _ _ _ _, by simp, by simp⟩
    obtain ⟨blk, off, sp⟩ := a
    have hs : sp = none := by
      obtain ⟨cs', h1, h2⟩ := hel 0 (by omega)
      obtain ⟨o, rfl, _⟩ := op_of_opn h2
      have h3 := (World.cells?_some h1).2.2 0 (by omega)
      exact spot_of_cellP (h3.trans rfl)
    subst hs
    have key : ∀ i : Fin len, ∃ o : Og, o.Kind ∧ ∀ j u, (encO o)[j]? = some u → w.cell? ⟨blk, off + i.1 * 5 + j, none⟩ = some u := by
      intro i
      obtain ⟨cs', h1, h2⟩ := hel i.1 (Nat.lt_of_lt_of_le i.2 hle)
      obtain ⟨o, rfl, hk⟩ := op_of_opn h2
      have h3 := (World.cells?_some h1).2.2
      refine ⟨o, hk, fun j u hu => ?_⟩
      have hj : j < 5 := by
        rcases Nat.lt_or_ge j 5 with h | h
        · exact h
        · rw [List.getElem?_eq_none (by simpa using h)] at hu; cases hu
      have := h3 j hj
      rw [add_noneR, add_noneR] at this
      rw [this]; exact hu
    obtain ⟨f, hf⟩ := Classical.axiomOfChoice key
    refine ⟨List.ofFn f, ⟨_, cap, by rw [List.length_ofFn], fun _ => by rw [List.length_ofFn]; exact hle, fun i hi => ⟨blk, off, rfl, fun j u hu => ?_⟩⟩, ?_, by rw [List.length_ofFn]; exact hlen⟩
    · rw [List.length_ofFn] at hi
      rw [List.getElem_ofFn] at hu
      exact (hf ⟨i, hi⟩).2 j u hu
    · intro o ho
      obtain ⟨i, rfl⟩ := List.mem_ofFn.1 ho
      exact (hf i).1
set_option maxRecDepth 100000 in
/-- a list of requests and times that is handed in -/
theorem open_ops {w : World} {v : Value} (o : Row.Opn Try.prog w 23 v) : ∃ l : List Og, LR 5 encO w v l ∧ (∀ o ∈ l, o.Kind) ∧ l.length ≤ 140737488351232 := by
  obtain ⟨⟨n, ho⟩, b, hk⟩ := o
  have hv1 : v.cells.toList = [v] := by
    have hc : ∃ u, v.cells.toList = [u] := by
      rcases Row.opn_slice ho Try.underlying23 with hv | ⟨a, len, cap, hv, _⟩ <;> exact ⟨_, hv⟩
    simp only [Value.okWide] at hk
    rw [Try.underlying23] at hk
    cases v <;> first | rfl | (exfalso; simp [Cell.okWide, Try.underlying23, Cell.ok] at hk)
  rw [hv1] at ho
  exact ops_of_opn ho
set_option maxRecDepth 100000 in
/-- a request that is handed in -/
theorem open_rq {w : World} {v : Value} (o : Row.Opn Try.prog w 32 v) : ∃ r : Rq, v = .agg r.row ∧ r.Kind := by
  obtain ⟨⟨n, ho⟩, b, hk⟩ := o
  simp only [Value.okWide] at hk
  rw [Try.underlying32] at hk
  obtain ⟨cs, rfl, hsz, hrow⟩ := hk
  obtain ⟨r, he, h1⟩ := rq_of_opn (cs := cs.toList) ho
  have : cs = r.row := Array.toList_inj.1 he
  subst this
  exact ⟨r, rfl, h1⟩
end Go.Proofs.Ytmbidannodelfaa.G
