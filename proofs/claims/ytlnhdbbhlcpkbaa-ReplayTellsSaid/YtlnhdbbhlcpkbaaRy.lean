/- The newest records as the document says, in plain Lean. -/
import Derived.Test.YtlnhdbbhlcpkbaaRq
namespace Go.Proofs.Ytlnhdbbhlcpkbaa.G
open Go.RowKit Go.Maps
set_option linter.unusedVariables false
set_option linter.unusedSimpArgs false

def Rec.ok (r : Rec) : Prop := r.kind = 1 ∨ r.kind = 2
instance (r : Rec) : Decidable r.ok := by unfold Rec.ok; exact inferInstance
/-- is y (at k) newer than x (at i)? -/
def NewP (x y : Rec) (i k : Nat) : Prop := y.ok ∧ y.id = x.id ∧ (x.ver < y.ver ∨ (y.ver = x.ver ∧ i < k))
instance (x y : Rec) (i k : Nat) : Decidable (NewP x y i k) := by unfold NewP; exact inferInstance
def NoNew (l : List Rec) (x : Rec) (i q : Nat) : Prop := ∀ k (h : k < l.length), k < q → ¬ NewP x l[k] i k
def IsP (l : List Rec) (i : Nat) : Prop := ∃ h : i < l.length, l[i].ok ∧ NoNew l l[i] i l.length
noncomputable instance (l : List Rec) (i : Nat) : Decidable (IsP l i) := Classical.propDecidable _
theorem NoNew.zero (l : List Rec) (x : Rec) (i : Nat) : NoNew l x i 0 := fun k _ h => absurd h (Nat.not_lt_zero _)
theorem NoNew.step {l : List Rec} {x : Rec} {i q : Nat} (h : NoNew l x i q) (hq : q < l.length) (hn : ¬ NewP x l[q] i q) : NoNew l x i (q + 1) := fun k hk hlt => by
  rcases (by omega : k < q ∨ k = q) with h1 | h1
  · exact h k hk h1
  · subst h1; exact hn
theorem IsP.only {l : List Rec} {i j : Nat} (hi : IsP l i) (hj : IsP l j) (e : (l[i]'hi.1).id = (l[j]'hj.1).id) : i = j := by
  obtain ⟨h1, h2, h3⟩ := hi
  obtain ⟨h4, h5, h6⟩ := hj
  have a := h3 j h4 h4
  have b := h6 i h1 h1
  have a' : ¬ (l[i].ver < l[j].ver ∨ (l[j].ver = l[i].ver ∧ i < j)) := fun h => a ⟨h5, e.symm, h⟩
  have b' : ¬ (l[j].ver < l[i].ver ∨ (l[i].ver = l[j].ver ∧ j < i)) := fun h => b ⟨h2, e, h⟩
  omega
theorem look_new_none {k : ByteArray} : ∀ l : List Rec, look (newL l) k = none → ∀ x ∈ l, x.ok → x.id ≠ k := by
  intro l
  rw [← List.reverse_reverse l]
  induction l.reverse with
  | nil => intro _ x hx; cases hx
  | cons a r ih =>
    rw [List.reverse_cons, newL_snoc, look_step (newL_srt _)]
    intro h x hx ho
    have h1 : look (newL r.reverse) k = none ∧ sing a k = none := by
      cases e : look (newL r.reverse) k with
      | none => rw [e] at h; exact ⟨rfl, h⟩
      | some y =>
        rw [e] at h
        cases e2 : sing a k with
        | none => rw [e2] at h; cases h
        | some z => rw [e2] at h; unfold comb at h; simp only at h; split at h <;> cases h
    rcases List.mem_append.1 hx with hx | hx
    · exact ih h1.1 x hx ho
    · rw [List.mem_singleton.1 hx] at ho ⊢
      intro e
      have := h1.2
      unfold sing at this
      rw [if_pos ⟨ho, e⟩] at this
      cases this
theorem getElem_snoc {l : List Rec} {a : Rec} {i : Nat} (h : i < l.length) (h' : i < (l ++ [a]).length) : (l ++ [a])[i] = l[i] := List.getElem_append_left h
theorem getElem_last {l : List Rec} {a : Rec} (h' : l.length < (l ++ [a]).length) : (l ++ [a])[l.length] = a := by simp
theorem NoNew.snoc {l : List Rec} {a x : Rec} {i : Nat} (h : NoNew l x i l.length) (ha : ¬ NewP x a i l.length) : NoNew (l ++ [a]) x i (l ++ [a]).length := fun k hk _ => by
  have hl : (l ++ [a]).length = l.length + 1 := by simp
  rcases (by omega : k < l.length ∨ k = l.length) with h1 | h1
  · rw [getElem_snoc h1]; exact h k h1 h1
  · subst h1; rw [getElem_last]; exact ha
theorem look_new_is {k : ByteArray} : ∀ (l : List Rec) (r : Rec), look (newL l) k = some r → ∃ i, ∃ h : IsP l i, l[i]'h.1 = r := by
  intro l
  rw [← List.reverse_reverse l]
  induction l.reverse with
  | nil => intro r h; cases h
  | cons a rr ih =>
    rw [List.reverse_cons, newL_snoc, look_step (newL_srt _)]
    obtain ⟨L, hL⟩ : ∃ L, L = rr.reverse := ⟨_, rfl⟩
    rw [← hL] at ih ⊢
    intro r h
    have hl : (L ++ [a]).length = L.length + 1 := by simp
    have keep : ∀ y, look (newL L) k = some y → ¬ (a.ok ∧ a.id = y.id ∧ y.ver ≤ a.ver) → ∃ i, ∃ h : IsP (L ++ [a]) i, (L ++ [a])[i]'h.1 = y := fun y hy hn => by
      obtain ⟨i, ⟨h1, h2, h3⟩, h4⟩ := ih y hy
      refine ⟨i, ⟨by omega, by rw [getElem_snoc h1]; exact h2, ?_⟩, by rw [getElem_snoc h1]; exact h4⟩
      rw [getElem_snoc h1]
      refine h3.snoc fun hnew => hn ?_
      rw [h4] at hnew
      obtain ⟨n1, n2, n3⟩ := hnew
      exact ⟨n1, n2, by omega⟩
    have last : a.ok → a.id = k → (∀ y, look (newL L) k = some y → y.ver ≤ a.ver) → ∃ i, ∃ h : IsP (L ++ [a]) i, (L ++ [a])[i]'h.1 = a := fun ho he hy => by
      refine ⟨L.length, ⟨by omega, by rw [getElem_last]; exact ho, ?_⟩, getElem_last _⟩
      rw [getElem_last]
      refine NoNew.snoc (fun j hj _ hnew => ?_) (fun hnew => by obtain ⟨_, _, n3⟩ := hnew; omega)
      obtain ⟨n1, n2, n3⟩ := hnew
      cases e : look (newL L) k with
      | none => exact look_new_none L e _ (List.getElem_mem hj) n1 (by rw [n2, he])
      | some y =>
        obtain ⟨i, ⟨h1, h2, h3⟩, h4⟩ := ih y e
        have := h3 j hj hj
        have hyk := (look_id e).1
        have hv := hy y e
        apply this
        rw [h4]
        refine ⟨n1, by rw [n2, he, hyk], ?_⟩
        left; omega
    unfold sing at h
    by_cases hs : (a.kind = 1 ∨ a.kind = 2) ∧ a.id = k
    · rw [if_pos hs] at h
      cases e : look (newL L) k with
      | none =>
        rw [e] at h
        obtain rfl : a = r := Option.some.inj h
        exact last hs.1 hs.2 (fun y hy => by rw [e] at hy; cases hy)
      | some y =>
        rw [e] at h
        unfold comb at h
        simp only at h
        by_cases hv : y.ver ≤ a.ver
        · rw [if_pos hv] at h
          obtain rfl : a = r := Option.some.inj h
          exact last hs.1 hs.2 (fun z hz => by rw [e] at hz; rw [← Option.some.inj hz]; exact hv)
        · rw [if_neg hv] at h
          obtain rfl : y = r := Option.some.inj h
          exact keep y e (fun hh => hv hh.2.2)
    · rw [if_neg hs, comb_none] at h
      exact keep r h (fun hh => hs ⟨hh.1, by rw [hh.2.1, (look_id h).1]⟩)
theorem is_look {l : List Rec} {i : Nat} (h : IsP l i) : look (newL l) (l[i]'h.1).id = some (l[i]'h.1) := by
  obtain ⟨h1, h2, h3⟩ := h
  cases e : look (newL l) l[i].id with
  | none => exact absurd rfl (look_new_none l e _ (List.getElem_mem h1) h2)
  | some y =>
    obtain ⟨j, hj, hy⟩ := look_new_is l y e
    have := IsP.only ⟨h1, h2, h3⟩ hj (by rw [hy, (look_id e).1])
    subst this
    rw [← hy]
/-- put in where it belongs -/
def put2 (r : Rec) (acc : List Rec) (n : Nat) : List Rec := acc.take n ++ [r] ++ acc.drop n
theorem put2_ins (r : Rec) : ∀ (acc : List Rec) (n : Nat), n ≤ acc.length → (∀ x ∈ acc.take n, bl8 x.id < bl8 r.id) → (∀ h : n < acc.length, ¬ bl8 acc[n].id < bl8 r.id) → (∀ x ∈ acc, x.id ≠ r.id) → put2 r acc n = insR r acc
  | [], n, _, _, _, _ => by unfold put2 insR; simp
  | x :: xs, 0, _, _, h2, h3 => by
    unfold put2 insR
    rw [if_neg (show ¬ bl8 x.id < bl8 r.id from h2 (Nat.succ_pos _)), if_neg (h3 x (List.mem_cons_self ..))]
    rfl
  | x :: xs, n + 1, hn, h1, h2, h3 => by
    unfold insR
    rw [if_pos (h1 x (by rw [List.take_succ_cons]; exact List.mem_cons_self ..)), ← put2_ins r xs n (by simpa using hn) (fun y hy => h1 y (by rw [List.take_succ_cons]; exact List.mem_cons_of_mem _ hy)) (fun h => by have := h2 (by simpa using h); simpa using this) (fun y hy => h3 y (List.mem_cons_of_mem _ hy))]
    unfold put2
    rw [List.take_succ_cons, List.drop_succ_cons]
    rfl
/-- what the document has behind so many -/
noncomputable def outL (l : List Rec) : Nat → List Rec
  | 0 => []
  | q + 1 => match l[q]? with | some r => if IsP l q then insR r (outL l q) else outL l q | none => outL l q
theorem outL_step {l : List Rec} {q : Nat} (h : q < l.length) : outL l (q + 1) = if IsP l q then insR l[q] (outL l q) else outL l q := by
  show (match l[q]? with | some r => if IsP l q then insR r (outL l q) else outL l q | none => outL l q) = _
  rw [List.getElem?_eq_getElem h]
theorem outL_len (l : List Rec) : ∀ q, q ≤ l.length → (outL l q).length ≤ q
  | 0, _ => Nat.le_refl _
  | q + 1, h => by
    have ih := outL_len l q (by omega)
    rw [outL_step (by omega)]
    split
    · have : ∀ (r : Rec) (acc : List Rec), (insR r acc).length ≤ acc.length + 1 := by
        intro r acc
        induction acc with
        | nil => simp [insR]
        | cons x xs ih => unfold insR; split; (simp only [List.length_cons]; omega); split; (split <;> simp); simp
      have := this l[q] (outL l q)
      omega
    · omega
theorem outL_mem (l : List Rec) : ∀ q, q ≤ l.length → ∀ x ∈ outL l q, ∃ i, ∃ h : IsP l i, i < q ∧ l[i]'h.1 = x
  | 0, _, x, hx => by cases hx
  | q + 1, hq, x, hx => by
    rw [outL_step (by omega)] at hx
    split at hx
    · rename_i hp
      rcases ins_mem _ _ x hx with rfl | hx
      · exact ⟨q, hp, by omega, rfl⟩
      · obtain ⟨i, h, h1, h2⟩ := outL_mem l q (by omega) x hx; exact ⟨i, h, by omega, h2⟩
    · obtain ⟨i, h, h1, h2⟩ := outL_mem l q (by omega) x hx; exact ⟨i, h, by omega, h2⟩
theorem outL_ne {l : List Rec} {q : Nat} (h : IsP l q) : ∀ x ∈ outL l q, x.id ≠ (l[q]'h.1).id := fun x hx e => by
  obtain ⟨i, hi, hlt, rfl⟩ := outL_mem l q (Nat.le_of_lt h.1) x hx
  have := IsP.only hi h e
  omega
theorem outL_srt (l : List Rec) : ∀ q, q ≤ l.length → Srt (outL l q)
  | 0, _ => List.Pairwise.nil
  | q + 1, h => by
    rw [outL_step (by omega)]
    split
    · exact ins_srt _ _ (outL_srt l q (by omega))
    · exact outL_srt l q (by omega)
theorem ins_keep (r : Rec) : ∀ (acc : List Rec), (∀ x ∈ acc, x.id ≠ r.id) → ∀ y, y = r ∨ y ∈ acc → y ∈ insR r acc
  | [], _, y, h => by rcases h with rfl | h; exact List.mem_singleton.2 rfl; cases h
  | x :: xs, hn, y, h => by
    unfold insR
    have ne := hn x (List.mem_cons_self ..)
    by_cases hlt : bl8 x.id < bl8 r.id
    · rw [if_pos hlt]
      rcases h with h | h
      · exact List.mem_cons_of_mem _ (ins_keep r xs (fun z hz => hn z (List.mem_cons_of_mem _ hz)) y (Or.inl h))
      · rcases List.mem_cons.1 h with h | h
        · rw [h]; exact List.mem_cons_self ..
        · exact List.mem_cons_of_mem _ (ins_keep r xs (fun z hz => hn z (List.mem_cons_of_mem _ hz)) y (Or.inr h))
    · rw [if_neg hlt, if_neg ne]
      rcases h with h | h
      · rw [h]; exact List.mem_cons_self ..
      · exact List.mem_cons_of_mem _ h
theorem outL_has (l : List Rec) : ∀ q, q ≤ l.length → ∀ i (h : IsP l i), i < q → l[i]'h.1 ∈ outL l q
  | 0, _, _, _, h => absurd h (Nat.not_lt_zero _)
  | q + 1, hq, i, h, hlt => by
    rw [outL_step (by omega)]
    rcases (by omega : i < q ∨ i = q) with h1 | h1
    · have := outL_has l q (by omega) i h h1
      split
      · rename_i hp
        exact ins_keep _ _ (outL_ne hp) _ (Or.inr this)
      · exact this
    · subst h1
      rw [if_pos h]
      exact ins_keep _ _ (outL_ne h) _ (Or.inl rfl)
theorem outL_new (l : List Rec) : outL l l.length = newL l :=
  srt_ext (outL_srt l _ (Nat.le_refl _)) (newL_srt l) fun r => by
    constructor
    · intro h
      obtain ⟨i, hi, _, rfl⟩ := outL_mem l _ (Nat.le_refl _) r h
      exact (look_id (is_look hi)).2
    · intro h
      obtain ⟨i, hi, rfl⟩ := look_new_is l r ((look_mem (newL_srt l) r).2 h)
      exact outL_has l _ (Nat.le_refl _) i hi hi.1
end Go.Proofs.Ytlnhdbbhlcpkbaa.G
