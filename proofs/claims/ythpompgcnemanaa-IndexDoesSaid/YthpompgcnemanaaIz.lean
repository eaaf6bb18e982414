/- An index filled from the end, in plain Lean: what is newest is the same. -/
import Derived.Test.YthpompgcnemanaaIq
namespace Go.Proofs.Ythpompgcnemanaa.G
open Go.RowKit Go.Maps
set_option linter.unusedVariables false
set_option linter.unusedSimpArgs false

/-- records added from the end: the first q of them -/
def lif (L : List Rec) : Nat → (ByteArray → Option Ent) × (Plc → Option ByteArray)
  | 0 => (fun _ => none, fun _ => none)
  | q + 1 => match L[L.length - 1 - q]? with
    | some r => (addN (lif L q).1 (lif L q).2 r (plc (L.length - 1 - q)), addQ (lif L q).2 r (plc (L.length - 1 - q)))
    | none => lif L q
theorem lif_step {L : List Rec} {q k : Nat} (hk : k = L.length - 1 - q) (h : k < L.length) : lif L (q + 1) = (addN (lif L q).1 (lif L q).2 L[k] (plc k), addQ (lif L q).2 L[k] (plc k)) := by
  subst hk
  show (match L[L.length - 1 - q]? with | some r => (addN (lif L q).1 (lif L q).2 r (plc (L.length - 1 - q)), addQ (lif L q).2 r (plc (L.length - 1 - q))) | none => lif L q) = _
  rw [List.getElem?_eq_getElem h]
theorem lif_q {L : List Rec} : ∀ q, q ≤ L.length → ∀ p i, (lif L q).2 p = some i → ∃ k, ∃ h : k < L.length, L.length - q ≤ k ∧ L[k].ok ∧ plc k = p ∧ L[k].id = i
  | 0, _, p, i => fun h => nomatch h
  | q + 1, hq, p, i => by
    have ih := lif_q (L := L) q (by omega)
    obtain ⟨t, ht⟩ : ∃ t, t = L.length - 1 - q := ⟨_, rfl⟩
    have hql : t < L.length := by omega
    rw [lif_step ht hql]
    show addQ (lif L q).2 L[t] (plc t) p = some i → _
    intro h
    by_cases ho : takes (lif L q).2 L[t] (plc t)
    · rw [addQ_yes ho] at h
      by_cases hp : p = plc t
      · subst hp
        rw [updM_same] at h
        exact ⟨t, hql, by omega, ho.2, rfl, Option.some.inj h⟩
      · rw [updM_other hp] at h
        obtain ⟨k, hk, h1, h2⟩ := ih p i h
        exact ⟨k, hk, by omega, h2⟩
    · rw [addQ_no ho] at h
      obtain ⟨k, hk, h1, h2⟩ := ih p i h
      exact ⟨k, hk, by omega, h2⟩
theorem lif_free {L : List Rec} {q t : Nat} (hq : q < L.length) (ht : t = L.length - 1 - q) : (lif L q).2 (plc t) = none := by
  cases h : (lif L q).2 (plc t) with
  | none => rfl
  | some s =>
    obtain ⟨k, _, h1, _, h2, _⟩ := lif_q q (by omega) _ _ h
    have := plc_inj h2
    omega
/-- one of an id with the greatest version, from a place on -/
def TopOf (L : List Rec) (a : Nat) (i : ByteArray) (k : Nat) : Prop := a ≤ k ∧ ∃ h : k < L.length, L[k].ok ∧ L[k].id = i ∧ ∀ j (hj : j < L.length), a ≤ j → L[j].ok → L[j].id = i → L[j].ver ≤ L[k].ver
theorem lif_n {L : List Rec} : ∀ q, q ≤ L.length → ∀ i, (∀ e, (lif L q).1 i = some e → ∃ k, ∃ h : TopOf L (L.length - q) i k, e = (L[k]'h.2.1).ent (plc k)) ∧ ((lif L q).1 i = none → ∀ j (hj : j < L.length), L.length - q ≤ j → L[j].ok → L[j].id ≠ i)
  | 0, _, i => ⟨(fun e h => nomatch h), fun _ j hj h => by omega⟩
  | q + 1, hq, i => by
    have ih := lif_n (L := L) q (by omega)
    obtain ⟨t, ht⟩ : ∃ t, t = L.length - 1 - q := ⟨_, rfl⟩
    have hql : t < L.length := by omega
    have ha : L.length - (q + 1) = t := by omega
    have hb : L.length - q = t + 1 := by omega
    rw [lif_step ht hql, ha]
    rw [hb] at ih
    show (∀ e, addN (lif L q).1 (lif L q).2 L[t] (plc t) i = some e → _) ∧ (addN (lif L q).1 (lif L q).2 L[t] (plc t) i = none → _)
    have keep : ∀ k, TopOf L (t + 1) i k → (L[t].ok → L[t].id = i → ∀ h : k < L.length, L[t].ver ≤ L[k].ver) → TopOf L t i k := fun k ⟨h1, h2, h3, h4, h5⟩ hn => ⟨by omega, h2, h3, h4, fun j hj hjq ho he => by
      rcases (by omega : t + 1 ≤ j ∨ j = t) with h | h
      · exact h5 j hj h ho he
      · subst h
        exact hn ho he h2⟩
    by_cases hc : takes (lif L q).2 L[t] (plc t) ∧ news (lif L q).1 L[t]
    · rw [addN_yes hc.1 hc.2]
      by_cases hi : i = L[t].id
      · subst hi
        rw [updM_same]
        refine ⟨fun e h => ⟨t, ⟨Nat.le_refl _, hql, hc.1.2, rfl, fun j hj hjq ho he => ?_⟩, (Option.some.inj h).symm⟩, fun h => by cases h⟩
        rcases (by omega : t + 1 ≤ j ∨ j = t) with h' | h'
        · cases hf : (lif L q).1 L[t].id with
          | none => exact absurd he ((ih _).2 hf j hj h' ho)
          | some e0 =>
            obtain ⟨k, ⟨h1, h2, h3, h4, h5⟩, h6⟩ := (ih _).1 e0 hf
            have hv := hc.2 e0 hf
            have hv2 : L[k].ver ≤ L[t].ver := by rw [h6] at hv; exact hv
            have := h5 j hj h' ho he
            omega
        · subst h'; omega
      · rw [updM_other hi]
        refine ⟨fun e h => ?_, fun h j hj hjq ho => ?_⟩
        · obtain ⟨k, hk, he⟩ := (ih i).1 e h
          exact ⟨k, keep k hk (fun _ hh => absurd hh.symm hi), he⟩
        · rcases (by omega : t + 1 ≤ j ∨ j = t) with h' | h'
          · exact (ih i).2 h j hj h' ho
          · subst h'; exact fun e => hi e.symm
    · rw [addN_no hc]
      have hno : ∀ e, (lif L q).1 i = some e → L[t].ok → L[t].id = i → L[t].ver < e.ver := fun e he ho hid => by
        have hn : ¬ news (lif L q).1 L[t] := fun hn => hc ⟨⟨lif_free (by omega) ht, ho⟩, hn⟩
        rcases Nat.lt_or_ge L[t].ver e.ver with h | h
        · exact h
        · refine absurd (fun e' he' => ?_) hn
          rw [hid, he] at he'
          rw [← Option.some.inj he']; exact h
      refine ⟨fun e h => ?_, fun h j hj hjq ho => ?_⟩
      · obtain ⟨k, hk, he⟩ := (ih i).1 e h
        refine ⟨k, keep k hk (fun ho hid _ => ?_), he⟩
        have h1 := hno e h ho hid
        rw [he] at h1
        exact Nat.le_of_lt h1
      · rcases (by omega : t + 1 ≤ j ∨ j = t) with h' | h'
        · exact (ih i).2 h j hj h' ho
        · subst h'
          intro hid
          refine hc ⟨⟨lif_free (by omega) ht, ho⟩, fun e he => ?_⟩
          rw [hid, h] at he; cases he
/-- both are the same, if no two of an id have one version -/
theorem lif_fil {L : List Rec} (D : ∀ j k (hj : j < L.length) (hk : k < L.length), k < j → ¬ (L[k].id = L[j].id ∧ L[k].ver = L[j].ver)) : (lif L L.length).1 = (fil L L.length).1 := by
  funext i
  have a := lif_n (L := L) L.length (Nat.le_refl _) i
  rw [Nat.sub_self] at a
  have b := fil_n (L := L) L.length (Nat.le_refl _) i
  cases ha : (lif L L.length).1 i with
  | none =>
    cases hb : (fil L L.length).1 i with
    | none => rfl
    | some e =>
      obtain ⟨k, hk, _⟩ := b.1 e hb
      exact absurd hk.2.2.2.1 (a.2 ha k hk.2.1 (Nat.zero_le _) hk.2.2.1)
  | some e =>
    obtain ⟨k, ⟨_, h2, h3, h4, h5⟩, he⟩ := a.1 e ha
    refine Eq.symm (?_ : (fil L L.length).1 i = some e)
    rw [he]
    refine fil_best (Nat.le_refl _) ⟨h2, h2, h3, h4, fun j hj _ ho hid => ?_⟩
    have hv := h5 j hj (Nat.zero_le _) ho hid
    rcases Nat.lt_or_ge L[j].ver L[k].ver with h | h
    · exact Or.inl h
    · have hv2 : L[j].ver = L[k].ver := by omega
      rcases (by omega : j < k ∨ j = k ∨ k < j) with h' | h' | h'
      · exact absurd ⟨hid.trans h4.symm, hv2⟩ (D k j h2 hj h')
      · exact Or.inr ⟨hv2, by omega⟩
      · exact absurd ⟨h4.trans hid.symm, hv2.symm⟩ (D j k hj h2 h')
end Go.Proofs.Ythpompgcnemanaa.G
