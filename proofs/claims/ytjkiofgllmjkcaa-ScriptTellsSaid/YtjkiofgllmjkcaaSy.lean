/- Acts out of lists: one alone, the first ones; how a list grows act by act. -/
import Derived.Test.YtjkiofgllmjkcaaSu
import Derived.Test.YtjkiofgllmjkcaaSr
import Derived.Test.YtjkiofgllmjkcaaSv
namespace Go.Proofs.Ytjkiofgllmjkcaa.G
open Go.RowKit Go.Proofs.Ytjkiofgllmjkcaa.WordPlain
set_option linter.unusedVariables false
set_option linter.unusedSimpArgs false

theorem allR_snoc (l : List Ac) (q : Nat) (h : q < l.length) : allR (l.take (q + 1)) ↔ allR (l.take q) ∧ l[q].Right := by
  constructor
  · intro ha
    rw [List.take_succ_eq_append_getElem h] at ha
    exact ⟨fun a hm => ha a (List.mem_append_left _ hm), ha _ (List.mem_append_right _ (List.mem_singleton.2 rfl))⟩
  · rintro ⟨h1, h2⟩
    exact allR_take_next l q h h1 h2
theorem dec_len (S : ByteArray) (h : decX S = 0) (n : Nat) (hn : S.size ≤ n) : (decA S).length ≤ n := by
  have key : ∀ (f : Nat) (L : List UInt8) (l : List Ac), rdAll f L = .ok l → l.length ≤ f := by
    intro f
    induction f with
    | zero => intro L l h; cases L with
      | nil => simp only [rdAll] at h; injection h with h; subst h; simp
      | cons c L => simp only [rdAll] at h; cases h
    | succ f ih => intro L l h; cases L with
      | nil => simp only [rdAll] at h; injection h with h; subst h; simp
      | cons c L =>
        simp only [rdAll] at h
        cases h1 : rdOne (c :: L) with
        | error x => rw [h1] at h; cases h
        | ok y =>
          obtain ⟨a, R⟩ := y
          rw [h1] at h
          simp only at h
          cases h2 : rdAll f R with
          | error x => rw [h2] at h; cases h
          | ok r =>
            rw [h2] at h
            injection h with h
            subst h
            have := ih R r h2
            simp; omega
  unfold decX at h
  unfold decA
  cases h1 : rdAll S.data.toList.length S.data.toList with
  | error e => simp
  | ok l =>
    have := key _ _ _ h1
    have e : S.data.toList.length = S.size := rfl
    simp only
    omega
theorem SA.at {w : World} {v : Value} {l : List Ac} (h : SA w v l) : ∃ oa cap, v = .slice oa l.length cap ∧ (l ≠ [] → l.length ≤ cap) ∧ ∀ i (h : i < l.length), ∃ b off vk, oa = some ⟨b, off, none⟩ ∧ Sb w vk l[i].keep ∧ AtC w b (off + i * 10) l[i] vk := by
  rcases h with ⟨rfl, oa, cap, rfl⟩ | ⟨_, b, off, cap, rfl, hc, hx⟩
  · exact ⟨oa, cap, rfl, fun h => absurd rfl h, fun i h => absurd h (Nat.not_lt_zero _)⟩
  · exact ⟨_, cap, rfl, fun _ => hc, fun i h => by obtain ⟨vk, h1, h2⟩ := hx i h; exact ⟨b, off, vk, rfl, h1, h2⟩⟩
theorem slice_subS (W : World) (oa : Option Addr) (len cap i j : Nat) (hij : i ≤ j) (hj : j ≤ cap) (hi : i < cap) :
    (Instr.sliceAt 22 (.slice oa len cap) (some (.int .i64 (i : Int))) (some (.int .i64 (j : Int))) none).run Try.prog W = .ok (.slice (oa.map (·.add (i * 10))) (j - i) (cap - i)) W := by
  have ht := Try.underlying22
  have he : Try.prog.elem 22 = 29 := by simp [Program.elem, ht]
  have ht' : Try.prog.underlying 22 = some (.slice (Try.prog.elem 22)) := by rw [he]; exact ht
  rw [run_sliceAt_slice _ _ _ _ _ _ ht', run_slice_lh (P := Try.prog) W 22 oa len cap ht' .i64 .i64 (i : Int) (j : Int) (by omega) (by omega) (by omega), he]
  obtain ⟨ii, z, h1, _, h3, _⟩ := act_info
  simp only [sizeOf, typeInfo]
  simp [h1, h3, sliced]
  omega
/-- one alone -/
theorem SA.one {w : World} {l : List Ac} {oa : Option Addr} {n cap : Nat} (h : SA w (.slice oa n cap) l) (i : Nat) (hi : i < l.length) : i < cap ∧ SA w (.slice (oa.map (·.add (i * 10))) 1 (cap - i)) [l[i]] := by
  rcases h with ⟨rfl, _⟩ | ⟨_, b, off, cap', hv, hc, hx⟩
  · exact absurd hi (Nat.not_lt_zero _)
  · injection hv with e1 e2 e3
    subst e1 e2 e3
    refine ⟨by omega, Or.inr ⟨by simp, b, off + i * 10, cap - i, ?_, by simp; omega, ?_⟩⟩
    · simp [add_none]
    · intro j hj
      have : j = 0 := by simpa using hj
      subst this
      simpa using hx i hi
/-- the first ones -/
theorem SA.first {w : World} {l : List Ac} {oa : Option Addr} {n cap : Nat} (h : SA w (.slice oa n cap) l) (k : Nat) (hk : k ≤ l.length) : SA w (.slice oa k cap) (l.take k) := by
  have hl : (l.take k).length = k := by rw [List.length_take]; omega
  rcases h with ⟨rfl, _⟩ | ⟨_, b, off, cap', hv, hc, hx⟩
  · have : k = 0 := by simpa using hk
    subst this
    exact Or.inl ⟨rfl, oa, cap, rfl⟩
  · injection hv with e1 e2 e3
    subst e1 e2 e3
    by_cases h0 : k = 0
    · subst h0; exact Or.inl ⟨rfl, _, cap, rfl⟩
    · refine Or.inr ⟨fun e => h0 (by rw [← hl, e]; rfl), b, off, cap, by rw [hl], by omega, fun i hi => ?_⟩
      rw [hl] at hi
      rw [List.getElem_take]
      exact hx i (by omega)
end Go.Proofs.Ytjkiofgllmjkcaa.G
