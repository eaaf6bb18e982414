/- Acts that are handed in: what they are, and where their lists lie. -/
import Derived.Test.YtjkiofgllmjkcaaS6
import Derived.Test.YtjkiofgllmjkcaaGOpn
import Derived.Test.YtjkiofgllmjkcaaGMisc
namespace Go.Proofs.Ytjkiofgllmjkcaa.G
open Go.RowKit Go.Proofs.Ytjkiofgllmjkcaa.WordPlain
set_option linter.unusedVariables false
set_option linter.unusedSimpArgs false

theorem add_zeroO (a : Addr) : a.add 0 = a := rfl
theorem add_none (b o n : Nat) : (⟨b, o, none⟩ : Addr).add n = ⟨b, o + n, none⟩ := by
  unfold Addr.add
  split
  · rename_i h; subst h; rfl
  · rfl
theorem spot_of_cell {w : World} {a : Addr} {v : Value} (h : w.cell? a = some v) : a.spot = none := by
  unfold World.cell? at h
  split at h
  · split at h
    · cases h
    · rename_i h2; cases hq : a.spot with
      | none => rfl
      | some x => rw [hq] at h2; simp at h2
  · cases h
theorem sb_of_opn {w : World} {n : Nat} {v : Value} (h : Row.opn Try.prog w n 27 [v]) : ∃ l : List Bool, Sb w v l ∧ l.length ≤ 140737488351232 := by
  have c1 : Try.prog.cellsOf 4 = 1 := by kernel_rfl
  have b1 : Try.prog.bytesOf 4 = 1 := by kernel_rfl
  rcases Row.opn_slice h Try.underlying27 with hv | ⟨a, len, cap, hv, hle, hby, hel⟩
  · cases hv
    exact ⟨[], Sb.nil w, by simp⟩
  · cases hv
    rw [b1] at hby
    rw [c1] at hel
    by_cases h0 : len = 0
    · subst h0
      exact ⟨[], Or.inl ⟨rfl, some a, cap, rfl, by simp⟩, by simp⟩
    obtain ⟨blk, off, sp⟩ := a
    have hs : sp = none := by
      obtain ⟨cs', h1, h2⟩ := hel 0 (by omega)
      obtain ⟨z, rfl⟩ := Row.opn_bool h2 Try.underlying4
      have h3 := (World.cells?_some h1).2.2 0 (by omega)
      exact spot_of_cell (h3.trans rfl)
    subst hs
    have key : ∀ i, i < len → ∃ z, w.cell? ⟨blk, off + i, none⟩ = some (.bool z) := by
      intro i hi
      obtain ⟨cs', h1, h2⟩ := hel i (by omega)
      obtain ⟨z, rfl⟩ := Row.opn_bool h2 Try.underlying4
      have h3 := (World.cells?_some h1).2.2 0 (by omega)
      rw [Nat.mul_one, add_none, add_none] at h3
      exact ⟨z, h3⟩
    refine ⟨(List.range len).map fun i => match w.cell? ⟨blk, off + i, none⟩ with | some (.bool z) => z | _ => false, ?_, by simp; omega⟩
    refine Or.inr ⟨?_, blk, off, cap, ?_, ?_, ?_⟩
    · intro e
      have := congrArg List.length e
      simp at this
      exact h0 this
    · simp
    · simpa using hle
    · intro i hi
      obtain ⟨z, hz⟩ := key i (by simpa using hi)
      simp only [List.getElem_map, List.getElem_range]
      rw [hz]
theorem f64_wfO (a : Nat) (h : (Lit.float .f64 a).wf = true) : a < 18446744073709551616 := by
  simpa [Lit.wf] using h

set_option maxRecDepth 100000 in
theorem act_of_opn {w : World} {n : Nat} {cs : List Value} (h : Row.opn Try.prog w n 29 cs) :
    ∃ (a : Ac) (vk : Value), cs = (a.row vk).toList ∧ a.Kind ∧ Sb w vk a.keep := by
  obtain ⟨hl, hf⟩ := Row.opn_struct h Try.underlying29
  have h10 : cs.length = 10 := hl.trans (by kernel_rfl)
  have ki : Try.prog.cellsOf 3 = 1 := by kernel_rfl
  have ku : Try.prog.cellsOf 26 = 1 := by kernel_rfl
  have kf : Try.prog.cellsOf 23 = 1 := by kernel_rfl
  have ks : Try.prog.cellsOf 9 = 1 := by kernel_rfl
  have kb : Try.prog.cellsOf 27 = 1 := by kernel_rfl
  have kr : Try.prog.cellsOf 25 = 4 := by kernel_rfl
  match cs, h10 with
  | [x0, x1, x2, x3, x4, x5, x6, x7, x8, x9], _ =>
    have f0 : Row.opn Try.prog w (n - 1) 3 [x0] := by
      have h : Row.opn Try.prog w (n - 1) 3 (([x0, x1, x2, x3, x4, x5, x6, x7, x8, x9].drop 0).take (Try.prog.cellsOf 3)) := hf 0 _ rfl
      rw [ki] at h; exact h
    have f1 : Row.opn Try.prog w (n - 1) 25 [x1, x2, x3, x4] := by
      have h : Row.opn Try.prog w (n - 1) 25 (([x0, x1, x2, x3, x4, x5, x6, x7, x8, x9].drop 1).take (Try.prog.cellsOf 25)) := hf 1 _ rfl
      rw [kr] at h; exact h
    have f2 : Row.opn Try.prog w (n - 1) 3 [x5] := by
      have h : Row.opn Try.prog w (n - 1) 3 (([x0, x1, x2, x3, x4, x5, x6, x7, x8, x9].drop 5).take (Try.prog.cellsOf 3)) := hf 2 _ rfl
      rw [ki] at h; exact h
    have f3 : Row.opn Try.prog w (n - 1) 26 [x6] := by
      have h : Row.opn Try.prog w (n - 1) 26 (([x0, x1, x2, x3, x4, x5, x6, x7, x8, x9].drop 6).take (Try.prog.cellsOf 26)) := hf 3 _ rfl
      rw [ku] at h; exact h
    have f4 : Row.opn Try.prog w (n - 1) 27 [x7] := by
      have h : Row.opn Try.prog w (n - 1) 27 (([x0, x1, x2, x3, x4, x5, x6, x7, x8, x9].drop 7).take (Try.prog.cellsOf 27)) := hf 4 _ rfl
      rw [kb] at h; exact h
    have f5 : Row.opn Try.prog w (n - 1) 3 [x8] := by
      have h : Row.opn Try.prog w (n - 1) 3 (([x0, x1, x2, x3, x4, x5, x6, x7, x8, x9].drop 8).take (Try.prog.cellsOf 3)) := hf 5 _ rfl
      rw [ki] at h; exact h
    have f6 : Row.opn Try.prog w (n - 1) 3 [x9] := by
      have h : Row.opn Try.prog w (n - 1) 3 (([x0, x1, x2, x3, x4, x5, x6, x7, x8, x9].drop 9).take (Try.prog.cellsOf 3)) := hf 6 _ rfl
      rw [ki] at h; exact h
    obtain ⟨_, hg⟩ := Row.opn_struct f1 Try.underlying25
    have g0 : Row.opn Try.prog w (n - 1 - 1) 3 [x1] := by
      have h : Row.opn Try.prog w (n - 1 - 1) 3 (([x1, x2, x3, x4].drop 0).take (Try.prog.cellsOf 3)) := hg 0 _ rfl
      rw [ki] at h; exact h
    have g1 : Row.opn Try.prog w (n - 1 - 1) 9 [x2] := by
      have h : Row.opn Try.prog w (n - 1 - 1) 9 (([x1, x2, x3, x4].drop 1).take (Try.prog.cellsOf 9)) := hg 1 _ rfl
      rw [ks] at h; exact h
    have g2 : Row.opn Try.prog w (n - 1 - 1) 9 [x3] := by
      have h : Row.opn Try.prog w (n - 1 - 1) 9 (([x1, x2, x3, x4].drop 2).take (Try.prog.cellsOf 9)) := hg 2 _ rfl
      rw [ks] at h; exact h
    have g3 : Row.opn Try.prog w (n - 1 - 1) 23 [x4] := by
      have h : Row.opn Try.prog w (n - 1 - 1) 23 (([x1, x2, x3, x4].drop 3).take (Try.prog.cellsOf 23)) := hg 3 _ rfl
      rw [kf] at h; exact h
    obtain ⟨z0, e0, w0⟩ := Row.opn_int f0 Try.underlying3
    obtain ⟨z1, e1, w1⟩ := Row.opn_int g0 Try.underlying3
    obtain ⟨s2, e2, w2⟩ := Row.opn_string g1 Try.underlying9
    obtain ⟨s3, e3, w3⟩ := Row.opn_string g2 Try.underlying9
    obtain ⟨z4, e4, w4⟩ := Row.opn_float g3 Try.underlying23
    obtain ⟨z5, e5, w5⟩ := Row.opn_int f2 Try.underlying3
    obtain ⟨z6, e6, w6⟩ := Row.opn_int f3 Try.underlying26
    obtain ⟨l7, s7, w7⟩ := sb_of_opn f4
    obtain ⟨z8, e8, w8⟩ := Row.opn_int f5 Try.underlying3
    obtain ⟨z9, e9, w9⟩ := Row.opn_int f6 Try.underlying3
    cases e0; cases e1; cases e2; cases e3; cases e4; cases e5; cases e6; cases e8; cases e9
    obtain ⟨m6, rfl, h6⟩ := u64_wf _ w6
    exact ⟨⟨z0, z1, s2, s3, z4, z5, m6, l7, z8, z9⟩, x7, rfl, ⟨i64_wf _ w0, i64_wf _ w1, w2, w3, f64_wfO _ w4, i64_wf _ w5, h6, w7, i64_wf _ w8, i64_wf _ w9⟩, s7⟩
theorem sa_of_opn {w : World} {n : Nat} {v : Value} (h : Row.opn Try.prog w n 22 [v]) : ∃ l : List Ac, SA w v l ∧ (∀ a ∈ l, a.Kind) ∧ l.length ≤ 140737488351232 := by
  have c1 : Try.prog.cellsOf 29 = 10 := by kernel_rfl
  have b1 : Try.prog.bytesOf 29 = 112 := by kernel_rfl
  rcases Row.opn_slice h Try.underlying22 with hv | ⟨a, len, cap, hv, hle, hby, hel⟩
  · cases hv
    exact ⟨[], Or.inl ⟨rfl, none, 0, rfl⟩, by simp, by simp⟩
  · cases hv
    rw [b1] at hby
    rw [c1] at hel
    by_cases h0 : len = 0
    · subst h0
      exact ⟨[], Or.inl ⟨rfl, some a, cap, rfl⟩, by simp, by simp⟩
    obtain ⟨blk, off, sp⟩ := a
    have hs : sp = none := by
      obtain ⟨cs', h1, h2⟩ := hel 0 (by omega)
      obtain ⟨a, vk, rfl, _, _⟩ := act_of_opn h2
      have h3 := (World.cells?_some h1).2.2 0 (by omega)
      exact spot_of_cell (h3.trans rfl)
    subst hs
    have key : ∀ i, i < len → ∃ a : Ac, a.Kind ∧ ∃ vk, Sb w vk a.keep ∧ AtC w blk (off + i * 10) a vk := by
      intro i hi
      obtain ⟨cs', h1, h2⟩ := hel i (by omega)
      obtain ⟨a, vk, rfl, hk, hb⟩ := act_of_opn h2
      have h3 := (World.cells?_some h1).2.2
      have f : ∀ j, j < 10 → w.cell? ⟨blk, off + i * 10 + j, none⟩ = (a.row vk).toList[j]? := fun j hj => by
        have := h3 j hj
        rw [add_none, add_none] at this
        exact this
      exact ⟨a, hk, vk, hb, f 0 (by omega), f 1 (by omega), f 2 (by omega), f 3 (by omega), f 4 (by omega), f 5 (by omega), f 6 (by omega), f 7 (by omega), f 8 (by omega), f 9 (by omega)⟩
    have hmk : ∀ i : Fin len, ∃ a : Ac, a.Kind ∧ ∃ vk, Sb w vk a.keep ∧ AtC w blk (off + i.1 * 10) a vk := fun i => key i.1 i.2
    obtain ⟨f, hf⟩ := Classical.axiomOfChoice hmk
    refine ⟨List.ofFn f, Or.inr ⟨?_, blk, off, cap, ?_, ?_, ?_⟩, ?_, ?_⟩
    · intro e
      have := congrArg List.length e
      rw [List.length_ofFn] at this
      exact h0 this
    · rw [List.length_ofFn]
    · rw [List.length_ofFn]; exact hle
    · intro i hi
      rw [List.length_ofFn] at hi
      rw [List.getElem_ofFn]
      exact (hf ⟨i, hi⟩).2
    · intro a ha
      obtain ⟨i, rfl⟩ := List.mem_ofFn.1 ha
      exact (hf i).1
    · rw [List.length_ofFn]; omega

/-- a list of acts that is handed in -/
theorem open_acts {w : World} {v : Value} (o : Row.Opn Try.prog w 22 v) : ∃ l : List Ac, SA w v l ∧ (∀ a ∈ l, a.Kind) ∧ l.length ≤ 140737488351232 := by
  obtain ⟨⟨n, ho⟩, b, hk⟩ := o
  have hc : ∃ u, v.cells.toList = [u] := by
    cases n with
    | zero => cases ho
    | succ n =>
      rcases Row.opn_slice ho Try.underlying22 with hv | ⟨a, len, cap, hv, _⟩ <;> exact ⟨_, hv⟩
  have hv1 : v.cells.toList = [v] := by
    rcases Row.opn_slice ho Try.underlying22 with hv | ⟨a, len, cap, hv, _⟩
    · simp only [Value.okWide] at hk
      rw [Try.underlying22] at hk
      cases v <;> first | rfl | (exfalso; simp [Cell.okWide, Try.underlying22, Cell.ok] at hk)
    · simp only [Value.okWide] at hk
      rw [Try.underlying22] at hk
      cases v <;> first | rfl | (exfalso; simp [Cell.okWide, Try.underlying22, Cell.ok] at hk)
  rw [hv1] at ho
  exact sa_of_opn ho
/-- an act that is handed in -/
theorem open_act {w : World} {v : Value} (o : Row.Opn Try.prog w 29 v) : ∃ (a : Ac) (vk : Value), v = .agg (a.row vk) ∧ a.Kind ∧ Sb w vk a.keep := by
  obtain ⟨⟨n, ho⟩, b, hk⟩ := o
  simp only [Value.okWide] at hk
  rw [Try.underlying29] at hk
  obtain ⟨cs, rfl, hsz, hrow⟩ := hk
  obtain ⟨a, vk, he, h1, h2⟩ := act_of_opn (cs := cs.toList) ho
  have : cs = a.row vk := Array.toList_inj.1 he
  subst this
  exact ⟨a, vk, rfl, h1, h2⟩
end Go.Proofs.Ytjkiofgllmjkcaa.G
