/- Lists of records that are handed in. -/
import Derived.Test.YthpompgcnemanaaIx
import Derived.Test.YthpompgcnemanaaGOpn
namespace Go.Proofs.Ythpompgcnemanaa.G
open Go.RowKit Go.Maps
set_option linter.unusedVariables false
set_option linter.unusedSimpArgs false

theorem spot_of_cellR {w : World} {a : Addr} {v : Value} (h : w.cell? a = some v) : a.spot = none := by
  unfold World.cell? at h
  split at h
  · split at h
    · cases h
    · rename_i h2; cases hq : a.spot with
      | none => rfl
      | some x => rw [hq] at h2; simp at h2
  · cases h
set_option maxRecDepth 100000 in
theorem rec_of_opn {w : World} {n : Nat} {cs : List Value} (h : Row.opn Try.prog w n 34 cs) : ∃ r : Rec, cs = encR r ∧ r.Kind := by
  obtain ⟨hl, hg⟩ := Row.opn_struct h Try.underlying34
  have h7 : cs.length = 7 := hl.trans (by kernel_rfl)
  have k_uint64 : Try.prog.cellsOf 31 = 1 := by kernel_rfl
  have k_uint32 : Try.prog.cellsOf 32 = 1 := by kernel_rfl
  have k_int : Try.prog.cellsOf 3 = 1 := by kernel_rfl
  have k_string : Try.prog.cellsOf 9 = 1 := by kernel_rfl
  match cs, h7 with
  | [x0, x1, x2, x3, x4, x5, x6], _ =>
    have g0 : Row.opn Try.prog w (n - 1) 31 [x0] := by
      have h : Row.opn Try.prog w (n - 1) 31 (([x0, x1, x2, x3, x4, x5, x6].drop 0).take (Try.prog.cellsOf 31)) := hg 0 _ rfl
      rw [k_uint64] at h; exact h
    have g1 : Row.opn Try.prog w (n - 1) 32 [x1] := by
      have h : Row.opn Try.prog w (n - 1) 32 (([x0, x1, x2, x3, x4, x5, x6].drop 1).take (Try.prog.cellsOf 32)) := hg 1 _ rfl
      rw [k_uint32] at h; exact h
    have g2 : Row.opn Try.prog w (n - 1) 3 [x2] := by
      have h : Row.opn Try.prog w (n - 1) 3 (([x0, x1, x2, x3, x4, x5, x6].drop 2).take (Try.prog.cellsOf 3)) := hg 2 _ rfl
      rw [k_int] at h; exact h
    have g3 : Row.opn Try.prog w (n - 1) 31 [x3] := by
      have h : Row.opn Try.prog w (n - 1) 31 (([x0, x1, x2, x3, x4, x5, x6].drop 3).take (Try.prog.cellsOf 31)) := hg 3 _ rfl
      rw [k_uint64] at h; exact h
    have g4 : Row.opn Try.prog w (n - 1) 31 [x4] := by
      have h : Row.opn Try.prog w (n - 1) 31 (([x0, x1, x2, x3, x4, x5, x6].drop 4).take (Try.prog.cellsOf 31)) := hg 4 _ rfl
      rw [k_uint64] at h; exact h
    have g5 : Row.opn Try.prog w (n - 1) 9 [x5] := by
      have h : Row.opn Try.prog w (n - 1) 9 (([x0, x1, x2, x3, x4, x5, x6].drop 5).take (Try.prog.cellsOf 9)) := hg 5 _ rfl
      rw [k_string] at h; exact h
    have g6 : Row.opn Try.prog w (n - 1) 9 [x6] := by
      have h : Row.opn Try.prog w (n - 1) 9 (([x0, x1, x2, x3, x4, x5, x6].drop 6).take (Try.prog.cellsOf 9)) := hg 6 _ rfl
      rw [k_string] at h; exact h
    obtain ⟨z0, e0, w0⟩ := Row.opn_int g0 Try.underlying31
    obtain ⟨z1, e1, w1⟩ := Row.opn_int g1 Try.underlying32
    obtain ⟨z2, e2, w2⟩ := Row.opn_int g2 Try.underlying3
    obtain ⟨z3, e3, w3⟩ := Row.opn_int g3 Try.underlying31
    obtain ⟨z4, e4, w4⟩ := Row.opn_int g4 Try.underlying31
    obtain ⟨z5, e5, w5⟩ := Row.opn_string g5 Try.underlying9
    obtain ⟨z6, e6, w6⟩ := Row.opn_string g6 Try.underlying9
    cases e0; cases e1; cases e2; cases e3; cases e4; cases e5; cases e6
    obtain ⟨m0, rfl, l0⟩ := u64_wf _ w0
    obtain ⟨m1, rfl, l1⟩ := u32_wf _ w1
    obtain ⟨m3, rfl, l3⟩ := u64_wf _ w3
    obtain ⟨m4, rfl, l4⟩ := u64_wf _ w4
    exact ⟨⟨m0, m1, z2, m3, m4, z5, z6⟩, rfl, ⟨l0, l1, i64_wf _ w2, l3, l4, w5, w6⟩⟩
set_option maxRecDepth 100000 in
theorem recs_of_opn {w : World} {n : Nat} {v : Value} (h : Row.opn Try.prog w n 41 [v]) : ∃ l : List Rec, LR 7 encR w v l ∧ (∀ o ∈ l, o.Kind) ∧ l.length ≤ 140737488351232 := by
  have c1 : Try.prog.cellsOf 34 = 7 := by kernel_rfl
  have b1 : 1 ≤ Try.prog.bytesOf 34 := by rw [show Try.prog.bytesOf 34 = 72 by kernel_rfl]; decide
  rcases Row.opn_slice h Try.underlying41 with hv | ⟨a, len, cap, hv, hle, hby, hel⟩
  · cases hv
    exact ⟨[], LR.nil _ _ _ _ _, by simp, by simp⟩
  · cases hv
    rw [c1] at hel
    have hlen : len ≤ 140737488351232 := Nat.le_trans hle (Nat.le_trans (Nat.le_mul_of_pos_right cap b1) hby)
    by_cases h0 : len = 0
    · subst h0
      exact ⟨[], LR.nil _ _ _ _ _, by simp, by simp⟩
    obtain ⟨blk, off, sp⟩ := a
    have hs : sp = none := by
      obtain ⟨cs', h1, h2⟩ := hel 0 (by omega)
      obtain ⟨o, rfl, _⟩ := rec_of_opn h2
      have h3 := (World.cells?_some h1).2.2 0 (by omega)
      exact spot_of_cellR (h3.trans rfl)
    subst hs
    have key : ∀ i : Fin len, ∃ o : Rec, o.Kind ∧ ∀ j u, (encR o)[j]? = some u → w.cell? ⟨blk, off + i.1 * 7 + j, none⟩ = some u := by
      intro i
      obtain ⟨cs', h1, h2⟩ := hel i.1 (Nat.lt_of_lt_of_le i.2 hle)
      obtain ⟨o, rfl, hk⟩ := rec_of_opn h2
      have h3 := (World.cells?_some h1).2.2
      refine ⟨o, hk, fun j u hu => ?_⟩
      have hj : j < 7 := by
        rcases Nat.lt_or_ge j 7 with h | h
        · exact h
        · rw [List.getElem?_eq_none (by simpa using h)] at hu; cases hu
      have := h3 j hj
      rw [add_noneR, add_noneR] at this
      rw [this]; exact hu
    obtain ⟨f, hf⟩ := Classical.axiomOfChoice key
    refine ⟨List.ofFn f, ⟨_, cap, by rw [List.length_ofFn], fun _ => by rw [List.length_ofFn]; exact hle, fun i hi => ⟨blk, off, rfl, fun j u hu => ?_⟩⟩, ?_, by rw [List.length_ofFn]; exact hlen⟩
    · rw [List.length_ofFn] at hi
      rw [List.getElem_ofFn] at hu
      exact (hf ⟨i, hi⟩).2 j u hu
    · intro o ho
      obtain ⟨i, rfl⟩ := List.mem_ofFn.1 ho
      exact (hf i).1
set_option maxRecDepth 100000 in
/-- a list of records that is handed in -/
theorem open_recs {w : World} {v : Value} (o : Row.Opn Try.prog w 41 v) : ∃ l : List Rec, LR 7 encR w v l ∧ (∀ o ∈ l, o.Kind) ∧ l.length ≤ 140737488351232 := by
  obtain ⟨⟨n, ho⟩, b, hk⟩ := o
  have hv1 : v.cells.toList = [v] := by
    have hc : ∃ u, v.cells.toList = [u] := by
      rcases Row.opn_slice ho Try.underlying41 with hv | ⟨a, len, cap, hv, _⟩ <;> exact ⟨_, hv⟩
    simp only [Value.okWide] at hk
    rw [Try.underlying41] at hk
    cases v <;> first | rfl | (exfalso; simp [Cell.okWide, Try.underlying41, Cell.ok] at hk)
  rw [hv1] at ho
  exact recs_of_opn ho
set_option maxRecDepth 100000 in
/-- a record that is handed in -/
theorem open_rec {w : World} {v : Value} (o : Row.Opn Try.prog w 34 v) : ∃ r : Rec, v = .agg r.row ∧ r.Kind := by
  obtain ⟨⟨n, ho⟩, b, hk⟩ := o
  simp only [Value.okWide] at hk
  rw [Try.underlying34] at hk
  obtain ⟨cs, rfl, hsz, hrow⟩ := hk
  obtain ⟨r, hr, hk⟩ := rec_of_opn ho
  refine ⟨r, ?_, hk⟩
  have : cs = r.row := Array.toList_inj.1 (by rw [show cs.toList = encR r from hr]; rfl)
  rw [this]
set_option maxRecDepth 100000 in
theorem loc_of_opn {w : World} {n : Nat} {cs : List Value} (h : Row.opn Try.prog w n 36 cs) : ∃ p : Plc, cs = [.int .i64 p.1, .int .i64 p.2] ∧ kP.ok p := by
  obtain ⟨hl, hg⟩ := Row.opn_struct h Try.underlying36
  have h2 : cs.length = 2 := hl.trans (by kernel_rfl)
  have k_int : Try.prog.cellsOf 3 = 1 := by kernel_rfl
  match cs, h2 with
  | [x0, x1], _ =>
    have g0 : Row.opn Try.prog w (n - 1) 3 [x0] := by
      have h : Row.opn Try.prog w (n - 1) 3 (([x0, x1].drop 0).take (Try.prog.cellsOf 3)) := hg 0 _ rfl
      rw [k_int] at h; exact h
    have g1 : Row.opn Try.prog w (n - 1) 3 [x1] := by
      have h : Row.opn Try.prog w (n - 1) 3 (([x0, x1].drop 1).take (Try.prog.cellsOf 3)) := hg 1 _ rfl
      rw [k_int] at h; exact h
    obtain ⟨z0, e0, w0⟩ := Row.opn_int g0 Try.underlying3
    obtain ⟨z1, e1, w1⟩ := Row.opn_int g1 Try.underlying3
    cases e0; cases e1
    exact ⟨(z0, z1), rfl, w0, w1⟩
set_option maxRecDepth 100000 in
/-- a place that is handed in -/
theorem open_loc {w : World} {v : Value} (o : Row.Opn Try.prog w 36 v) : ∃ p : Plc, v = .agg #[.int .i64 p.1, .int .i64 p.2] ∧ kP.ok p := by
  obtain ⟨⟨n, ho⟩, b, hk⟩ := o
  simp only [Value.okWide] at hk
  rw [Try.underlying36] at hk
  obtain ⟨cs, rfl, hsz, hrow⟩ := hk
  obtain ⟨p, hp, hk⟩ := loc_of_opn ho
  refine ⟨p, ?_, hk⟩
  have : cs = #[.int .i64 p.1, .int .i64 p.2] := Array.toList_inj.1 (by rw [show cs.toList = _ from hp])
  rw [this]
set_option maxRecDepth 100000 in
theorem strs_of_opn {w : World} {n : Nat} {v : Value} (h : Row.opn Try.prog w n 42 [v]) : ∃ l : List ByteArray, LR 1 encK w v l ∧ (∀ o ∈ l, o.size ≤ 140737488351232) ∧ l.length ≤ 140737488351232 := by
  have c1 : Try.prog.cellsOf 9 = 1 := by kernel_rfl
  have b1 : 1 ≤ Try.prog.bytesOf 9 := by rw [show Try.prog.bytesOf 9 = 16 by kernel_rfl]; decide
  rcases Row.opn_slice h Try.underlying42 with hv | ⟨a, len, cap, hv, hle, hby, hel⟩
  · cases hv
    exact ⟨[], LR.nil _ _ _ _ _, by simp, by simp⟩
  · cases hv
    rw [c1] at hel
    have hlen : len ≤ 140737488351232 := Nat.le_trans hle (Nat.le_trans (Nat.le_mul_of_pos_right cap b1) hby)
    by_cases h0 : len = 0
    · subst h0
      exact ⟨[], LR.nil _ _ _ _ _, by simp, by simp⟩
    obtain ⟨blk, off, sp⟩ := a
    have hs : sp = none := by
      obtain ⟨cs', h1, h2⟩ := hel 0 (by omega)
      obtain ⟨o, rfl, _⟩ := Row.opn_string h2 Try.underlying9
      have h3 := (World.cells?_some h1).2.2 0 (by omega)
      exact spot_of_cellR (h3.trans rfl)
    subst hs
    have key : ∀ i : Fin len, ∃ o : ByteArray, o.size ≤ 140737488351232 ∧ w.cell? ⟨blk, off + i.1 * 1 + 0, none⟩ = some (.string o) := by
      intro i
      obtain ⟨cs', h1, h2⟩ := hel i.1 (Nat.lt_of_lt_of_le i.2 hle)
      obtain ⟨o, rfl, hk⟩ := Row.opn_string h2 Try.underlying9
      have h3 := (World.cells?_some h1).2.2 0 (by omega)
      rw [add_noneR, add_noneR] at h3
      exact ⟨o, hk, h3⟩
    obtain ⟨f, hf⟩ := Classical.axiomOfChoice key
    refine ⟨List.ofFn f, ⟨_, cap, by rw [List.length_ofFn], fun _ => by rw [List.length_ofFn]; exact hle, fun i hi => ⟨blk, off, rfl, fun j u hu => ?_⟩⟩, ?_, by rw [List.length_ofFn]; exact hlen⟩
    · rw [List.length_ofFn] at hi
      rw [List.getElem_ofFn] at hu
      match j, hu with
      | 0, hu => exact ((hf ⟨i, hi⟩).2).trans hu
      | j + 1, hu => simp at hu
    · intro o ho
      obtain ⟨i, rfl⟩ := List.mem_ofFn.1 ho
      exact (hf i).1
set_option maxRecDepth 100000 in
/-- a list of texts that is handed in -/
theorem open_strs {w : World} {v : Value} (o : Row.Opn Try.prog w 42 v) : ∃ l : List ByteArray, LR 1 encK w v l ∧ (∀ o ∈ l, o.size ≤ 140737488351232) ∧ l.length ≤ 140737488351232 := by
  obtain ⟨⟨n, ho⟩, b, hk⟩ := o
  have hv1 : v.cells.toList = [v] := by
    have hc : ∃ u, v.cells.toList = [u] := by
      rcases Row.opn_slice ho Try.underlying42 with hv | ⟨a, len, cap, hv, _⟩ <;> exact ⟨_, hv⟩
    simp only [Value.okWide] at hk
    rw [Try.underlying42] at hk
    cases v <;> first | rfl | (exfalso; simp [Cell.okWide, Try.underlying42, Cell.ok] at hk)
  rw [hv1] at ho
  exact strs_of_opn ho
end Go.Proofs.Ythpompgcnemanaa.G
