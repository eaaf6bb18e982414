/- What a filled index holds, in plain Lean. -/
import Derived.Test.YthpompgcnemanaaIf
namespace Go.Proofs.Ythpompgcnemanaa.G
open Go.RowKit Go.Maps
set_option linter.unusedVariables false
set_option linter.unusedSimpArgs false

/-- where records stand -/
theorem fil_q {L : List Rec} : ∀ q, q ≤ L.length → ∀ p i, (fil L q).2 p = some i ↔ ∃ k, ∃ h : k < L.length, k < q ∧ L[k].ok ∧ plc k = p ∧ L[k].id = i
  | 0, _, p, i => ⟨(fun h => nomatch h), fun ⟨_, _, h, _⟩ => absurd h (Nat.not_lt_zero _)⟩
  | q + 1, hq, p, i => by
    have ih := fil_q (L := L) q (by omega)
    have hql : q < L.length := by omega
    rw [fil_step hql]
    show addQ (fil L q).2 L[q] (plc q) p = some i ↔ _
    have free : (fil L q).2 (plc q) = none := by
      cases h : (fil L q).2 (plc q) with
      | none => rfl
      | some s =>
        obtain ⟨k, _, h1, _, h2, _⟩ := (ih _ _).1 h
        have := plc_inj h2
        omega
    by_cases ho : L[q].ok
    · rw [addQ_yes ⟨free, ho⟩]
      by_cases hp : p = plc q
      · subst hp
        rw [updM_same]
        constructor
        · intro h
          exact ⟨q, hql, by omega, ho, rfl, Option.some.inj h⟩
        · rintro ⟨k, hk, h1, h2, h3, h4⟩
          have := plc_inj h3
          subst this
          rw [h4]
      · rw [updM_other hp, ih]
        constructor
        · rintro ⟨k, hk, h1, h2⟩; exact ⟨k, hk, by omega, h2⟩
        · rintro ⟨k, hk, h1, h2, h3, h4⟩
          refine ⟨k, hk, ?_, h2, h3, h4⟩
          rcases (by omega : k < q ∨ k = q) with h | h
          · exact h
          · subst h; exact absurd h3.symm hp
    · rw [addQ_no (fun h => ho h.2), ih]
      constructor
      · rintro ⟨k, hk, h1, h2⟩; exact ⟨k, hk, by omega, h2⟩
      · rintro ⟨k, hk, h1, h2, h3⟩
        refine ⟨k, hk, ?_, h2, h3⟩
        rcases (by omega : k < q ∨ k = q) with h | h
        · exact h
        · subst h; exact absurd h2 ho
theorem fil_free {L : List Rec} {q : Nat} (hq : q ≤ L.length) : (fil L q).2 (plc q) = none := by
  cases h : (fil L q).2 (plc q) with
  | none => rfl
  | some s =>
    obtain ⟨k, _, h1, _, h2, _⟩ := (fil_q q hq _ _).1 h
    have := plc_inj h2
    omega
/-- the last one of those of an id with the greatest version -/
def BestOf (L : List Rec) (q : Nat) (i : ByteArray) (k : Nat) : Prop := k < q ∧ ∃ h : k < L.length, L[k].ok ∧ L[k].id = i ∧ ∀ j (hj : j < L.length), j < q → L[j].ok → L[j].id = i → L[j].ver < L[k].ver ∨ (L[j].ver = L[k].ver ∧ j ≤ k)
theorem BestOf.uniq {L : List Rec} {q j k : Nat} {i : ByteArray} (h : BestOf L q i j) (h' : BestOf L q i k) : j = k := by
  obtain ⟨h1, h2, h3, h4, h5⟩ := h
  obtain ⟨g1, g2, g3, g4, g5⟩ := h'
  have a := h5 k g2 g1 g3 g4
  have b := g5 j h2 h1 h3 h4
  omega
theorem fil_n {L : List Rec} : ∀ q, q ≤ L.length → ∀ i, (∀ e, (fil L q).1 i = some e → ∃ k, ∃ h : BestOf L q i k, e = (L[k]'h.2.1).ent (plc k)) ∧ ((fil L q).1 i = none → ∀ j (hj : j < L.length), j < q → L[j].ok → L[j].id ≠ i)
  | 0, _, i => ⟨(fun e h => nomatch h), fun _ j _ h => absurd h (Nat.not_lt_zero _)⟩
  | q + 1, hq, i => by
    have ih := fil_n (L := L) q (by omega)
    have hql : q < L.length := by omega
    rw [fil_step hql]
    show (∀ e, addN (fil L q).1 (fil L q).2 L[q] (plc q) i = some e → _) ∧ (addN (fil L q).1 (fil L q).2 L[q] (plc q) i = none → _)
    have keep : ∀ k, BestOf L q i k → ¬ (L[q].ok ∧ L[q].id = i ∧ ∀ h : k < L.length, L[k].ver ≤ L[q].ver) → BestOf L (q + 1) i k := fun k ⟨h1, h2, h3, h4, h5⟩ hn => ⟨by omega, h2, h3, h4, fun j hj hjq ho he => by
      rcases (by omega : j < q ∨ j = q) with h | h
      · exact h5 j hj h ho he
      · subst h
        left
        rcases Nat.lt_or_ge L[j].ver L[k].ver with h | h
        · exact h
        · exact absurd ⟨ho, he, fun _ => h⟩ hn⟩
    by_cases hc : takes (fil L q).2 L[q] (plc q) ∧ news (fil L q).1 L[q]
    · rw [addN_yes hc.1 hc.2]
      by_cases hi : i = L[q].id
      · subst hi
        rw [updM_same]
        refine ⟨fun e h => ⟨q, ⟨by omega, hql, hc.1.2, rfl, fun j hj hjq ho he => ?_⟩, (Option.some.inj h).symm⟩, fun h => by cases h⟩
        rcases (by omega : j < q ∨ j = q) with h' | h'
        · cases hf : (fil L q).1 L[q].id with
          | none => exact absurd he ((ih _).2 hf j hj h' ho)
          | some e0 =>
            obtain ⟨k, ⟨h1, h2, h3, h4, h5⟩, h6⟩ := (ih _).1 e0 hf
            have hv := hc.2 e0 hf
            have hv2 : L[k].ver ≤ L[q].ver := by rw [h6] at hv; exact hv
            have := h5 j hj h' ho he
            omega
        · subst h'; omega
      · rw [updM_other hi]
        refine ⟨fun e h => ?_, fun h j hj hjq ho => ?_⟩
        · obtain ⟨k, hk, he⟩ := (ih i).1 e h
          exact ⟨k, keep k hk (fun hh => hi hh.2.1.symm), he⟩
        · rcases (by omega : j < q ∨ j = q) with h' | h'
          · exact (ih i).2 h j hj h' ho
          · subst h'; exact fun e => hi e.symm
    · rw [addN_no hc]
      have hno : ∀ e, (fil L q).1 i = some e → L[q].ok → L[q].id = i → L[q].ver < e.ver := fun e he ho hid => by
        have hn : ¬ news (fil L q).1 L[q] := fun hn => hc ⟨⟨fil_free (by omega), ho⟩, hn⟩
        rcases Nat.lt_or_ge L[q].ver e.ver with h | h
        · exact h
        · refine absurd (fun e' he' => ?_) hn
          rw [hid, he] at he'
          rw [← Option.some.inj he']; exact h
      refine ⟨fun e h => ?_, fun h j hj hjq ho => ?_⟩
      · obtain ⟨k, hk, he⟩ := (ih i).1 e h
        refine ⟨k, keep k hk (fun hh => ?_), he⟩
        have h1 := hno e h hh.1 hh.2.1
        have h2 := hh.2.2 hk.2.1
        rw [he] at h1
        have h3 : (L[k]'hk.2.1).ver = ((L[k]'hk.2.1).ent (plc k)).ver := rfl
        omega
      · rcases (by omega : j < q ∨ j = q) with h' | h'
        · exact (ih i).2 h j hj h' ho
        · subst h'
          intro hid
          refine hc ⟨⟨fil_free (by omega), ho⟩, fun e he => ?_⟩
          rw [hid, h] at he; cases he
theorem fil_best {L : List Rec} {q : Nat} (hq : q ≤ L.length) {i : ByteArray} {k : Nat} (h : BestOf L q i k) : (fil L q).1 i = some ((L[k]'h.2.1).ent (plc k)) := by
  cases hf : (fil L q).1 i with
  | none => exact absurd h.2.2.2.1 ((fil_n q hq i).2 hf k h.2.1 h.1 h.2.2.1)
  | some e =>
    obtain ⟨j, hj, he⟩ := (fil_n q hq i).1 e hf
    have := hj.uniq h
    subst this
    rw [he]
/-- where records stand, as a list -/
def filQ (L : List Rec) (q : Nat) : List (Plc × ByteArray) := (List.range q).filterMap fun k => match L[k]? with | some r => if r.ok then some (plc k, r.id) else none | none => none
theorem filQ_mem {L : List Rec} {q : Nat} {p : Plc} {i : ByteArray} : (p, i) ∈ filQ L q ↔ ∃ k, ∃ h : k < L.length, k < q ∧ L[k].ok ∧ plc k = p ∧ L[k].id = i := by
  unfold filQ
  rw [List.mem_filterMap]
  constructor
  · rintro ⟨k, hk, he⟩
    rw [List.mem_range] at hk
    cases hl : L[k]? with
    | none => rw [hl] at he; cases he
    | some r =>
      rw [hl] at he
      simp only at he
      obtain ⟨hlt, rfl⟩ := List.getElem?_eq_some_iff.1 hl
      split at he
      · rename_i ho
        cases he
        exact ⟨k, hlt, hk, ho, rfl, rfl⟩
      · cases he
  · rintro ⟨k, hlt, hk, ho, rfl, rfl⟩
    refine ⟨k, List.mem_range.2 hk, ?_⟩
    rw [List.getElem?_eq_getElem hlt]
    simp only
    rw [if_pos ho]
theorem filQ_en {L : List Rec} {q : Nat} (hq : q ≤ L.length) : En (fil L q).2 (filQ L q) := by
  constructor
  · unfold filQ
    rw [List.map_filterMap]
    refine List.Pairwise.filterMap (R := (· ≠ ·)) _ (fun a b hne x hx y hy e => ?_) List.nodup_range
    subst e
    have key : ∀ c, (Option.map (fun p : Plc × ByteArray => p.1) (match L[c]? with | some r => if r.ok then some (plc c, r.id) else none | none => none)) = some x → plc c = x := fun c hc => by
      cases hl : L[c]? with
      | none => rw [hl] at hc; cases hc
      | some r =>
        rw [hl] at hc
        simp only at hc
        split at hc
        · exact Option.some.inj hc
        · cases hc
    exact hne (plc_inj ((key a hx).trans (key b hy).symm))
  · exact fun x s => filQ_mem.trans (fil_q q hq x s).symm
end Go.Proofs.Ythpompgcnemanaa.G
