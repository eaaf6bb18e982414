/- A checkpoint that is handed in: what it is, and where its lists lie. -/
import Derived.Test.YtieijelbflkpeaaGCkm
import Derived.Test.YtieijelbflkpeaaGOpn
import Derived.Test.YtieijelbflkpeaaGMisc
namespace Go.Proofs.Ytieijelbflkpeaa.G
open Go.RowKit
set_option linter.unusedVariables false
set_option linter.unusedSimpArgs false

theorem spot_none {w : World} {b len cap : Nat} {a : Addr} (h : Cell.okWide Try.prog w .any b 24 (.slice (some a) len cap)) : a.spot = none := by
  unfold Cell.okWide at h
  rw [Try.underlying24] at h
  simp only [Cell.ok] at h
  rw [Try.underlying24] at h
  exact h.2.2.2.1

theorem cells_one {w : World} {a : Addr} {v : Value} (h : w.cells? 0 a 1 = some [v]) : w.cell? a = some v := by
  simp [World.cells?, Addr.add] at h
  cases hq : w.cell? a with
  | none => rw [hq] at h; cases h
  | some u => rw [hq] at h; cases h; rfl

theorem sl_of_opn {w : World} {n b : Nat} {v : Value} (h : Row.opn Try.prog w n 24 [v]) (hok : Cell.okWide Try.prog w .any b 24 v) :
    ∃ l : List Int, Sl w v l ∧ (∀ x ∈ l, -9223372036854775808 ≤ x ∧ x < 9223372036854775808) ∧ l.length ≤ 140737488351232 := by
  have c1 : Try.prog.cellsOf 3 = 1 := by kernel_rfl
  have b1 : Try.prog.bytesOf 3 = 8 := by kernel_rfl
  rcases Row.opn_slice h Try.underlying24 with hv | ⟨a, len, cap, hv, hle, hby, hel⟩
  · cases hv
    exact ⟨[], Or.inl ⟨rfl, none, 0, rfl, fun _ => rfl⟩, by simp, by simp⟩
  · cases hv
    have hs := spot_none hok
    obtain ⟨blk, off, sp⟩ := a
    simp only at hs
    subst hs
    rw [b1] at hby
    rw [c1] at hel
    have key : ∀ i, i < len → ∃ z, w.cell? ⟨blk, off + i, none⟩ = some (.int .i64 z) ∧ -9223372036854775808 ≤ z ∧ z < 9223372036854775808 := by
      intro i hi
      obtain ⟨cs', h1, h2⟩ := hel i (by omega)
      obtain ⟨z, rfl, hz⟩ := Row.opn_int h2 Try.underlying3
      have h3 := cells_one h1
      refine ⟨z, ?_, i64_wf z hz⟩
      rw [Nat.mul_one] at h3
      by_cases h0 : i = 0
      · subst h0; simpa [Addr.add] using h3
      · simpa [Addr.add, h0] using h3
    refine ⟨(List.range len).map fun i => match w.cell? ⟨blk, off + i, none⟩ with | some (.int _ z) => z | _ => 0, ?_, ?_, ?_⟩
    · by_cases h0 : len = 0
      · subst h0
        exact Or.inl ⟨rfl, some ⟨blk, off, none⟩, cap, rfl, by simp⟩
      · refine Or.inr ⟨?_, blk, off, cap, ?_, ?_, ?_⟩
        · intro e
          have := congrArg List.length e
          simp at this
          exact h0 this
        · simp
        · simpa using hle
        · intro i hi
          obtain ⟨z, hz, _⟩ := key i (by simpa using hi)
          simp only [List.getElem_map, List.getElem_range]
          rw [hz]
    · intro x hx
      obtain ⟨i, hi, rfl⟩ := List.mem_map.1 hx
      obtain ⟨z, hz, hr⟩ := key i (List.mem_range.1 hi)
      rw [hz]; exact hr
    · simp; omega

theorem open_cells {w : World} {n b : Nat} {cs : Array Value} (h : Row.opn Try.prog w n 26 cs.toList) (hk : Row.okWide Try.prog w .any b 26 cs) :
    ∃ (c : Ck) (vo vl : Value), cs = #[.int .u64 c.gen, .int .u32 c.ep, .int .u64 c.lsn, .int .u64 c.ver, vo, vl] ∧ c.Kind ∧ Sl w vo c.order ∧ Sl w vl c.lens := by
  have hu := Try.underlying26
  obtain ⟨hl, hf⟩ := Row.opn_struct h hu
  have h6 : cs.toList.length = 6 := hl.trans (by kernel_rfl)
  obtain ⟨l, hcl⟩ : ∃ l, cs = l.toArray := ⟨cs.toList, by simp⟩
  subst hcl
  simp only [List.toList_toArray] at hf h6
  have k1 : Try.prog.cellsOf 22 = 1 := by kernel_rfl
  have k2 : Try.prog.cellsOf 23 = 1 := by kernel_rfl
  have k3 : Try.prog.cellsOf 24 = 1 := by kernel_rfl
  match l, h6 with
  | [x0, x1, x2, x3, x4, x5], _ =>
    have f0 : Row.opn Try.prog w (n - 1) 22 [x0] := by
      have h : Row.opn Try.prog w (n - 1) 22 (([x0, x1, x2, x3, x4, x5].drop 0).take (Try.prog.cellsOf 22)) := hf 0 _ rfl
      rw [k1] at h; exact h
    have f1 : Row.opn Try.prog w (n - 1) 23 [x1] := by
      have h : Row.opn Try.prog w (n - 1) 23 (([x0, x1, x2, x3, x4, x5].drop 1).take (Try.prog.cellsOf 23)) := hf 1 _ rfl
      rw [k2] at h; exact h
    have f2 : Row.opn Try.prog w (n - 1) 22 [x2] := by
      have h : Row.opn Try.prog w (n - 1) 22 (([x0, x1, x2, x3, x4, x5].drop 2).take (Try.prog.cellsOf 22)) := hf 2 _ rfl
      rw [k1] at h; exact h
    have f3 : Row.opn Try.prog w (n - 1) 22 [x3] := by
      have h : Row.opn Try.prog w (n - 1) 22 (([x0, x1, x2, x3, x4, x5].drop 3).take (Try.prog.cellsOf 22)) := hf 3 _ rfl
      rw [k1] at h; exact h
    have f4 : Row.opn Try.prog w (n - 1) 24 [x4] := by
      have h : Row.opn Try.prog w (n - 1) 24 (([x0, x1, x2, x3, x4, x5].drop 4).take (Try.prog.cellsOf 24)) := hf 4 _ rfl
      rw [k3] at h; exact h
    have f5 : Row.opn Try.prog w (n - 1) 24 [x5] := by
      have h : Row.opn Try.prog w (n - 1) 24 (([x0, x1, x2, x3, x4, x5].drop 5).take (Try.prog.cellsOf 24)) := hf 5 _ rfl
      rw [k3] at h; exact h
    obtain ⟨ts, hts, _, hcell⟩ := hk
    have hts' : Try.prog.cellTypes Try.prog.depth 26 = some [22, 23, 22, 22, 24, 24] := by kernel_rfl
    rw [hts'] at hts
    cases hts
    obtain ⟨u4, hu4, o4⟩ := hcell 4 x4 rfl
    obtain ⟨u5, hu5, o5⟩ := hcell 5 x5 rfl
    cases hu4
    cases hu5
    obtain ⟨z0, e0, w0⟩ := Row.opn_int f0 Try.underlying22
    obtain ⟨z1, e1, w1⟩ := Row.opn_int f1 Try.underlying23
    obtain ⟨z2, e2, w2⟩ := Row.opn_int f2 Try.underlying22
    obtain ⟨z3, e3, w3⟩ := Row.opn_int f3 Try.underlying22
    cases e0; cases e1; cases e2; cases e3
    obtain ⟨g, rfl, hg⟩ := u64_wf _ w0
    obtain ⟨ep, rfl, hep⟩ := u32_wf _ w1
    obtain ⟨ls, rfl, hls⟩ := u64_wf _ w2
    obtain ⟨ve, rfl, hve⟩ := u64_wf _ w3
    obtain ⟨lo, so, ro, no⟩ := sl_of_opn f4 o4
    obtain ⟨ll, sl, rl, nl⟩ := sl_of_opn f5 o5
    exact ⟨⟨g, ep, ls, ve, lo, ll⟩, x4, x5, rfl, ⟨hg, hep, hls, hve, ro, rl, no, nl⟩, so, sl⟩

/-- a checkpoint that is handed in -/
theorem open_check {w : World} {v : Value} (o : Row.Opn Try.prog w 26 v) : ∃ (c : Ck) (vo vl : Value), v = c.val vo vl ∧ c.Kind ∧ Sl w vo c.order ∧ Sl w vl c.lens := by
  obtain ⟨⟨n, ho⟩, b, hk⟩ := o
  simp only [Value.okWide] at hk
  rw [Try.underlying26] at hk
  obtain ⟨cs, rfl, hsz, hrow⟩ := hk
  obtain ⟨c, vo, vl, rfl, h1, h2, h3⟩ := open_cells (cs := cs) ho hrow
  exact ⟨c, vo, vl, rfl, h1, h2, h3⟩
end Go.Proofs.Ytieijelbflkpeaa.G
