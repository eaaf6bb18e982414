/- What is gone with a segment, in plain Lean. -/
import Derived.Test.YthpompgcnemanaaIz
namespace Go.Proofs.Ythpompgcnemanaa.G
open Go.RowKit Go.Maps
set_option linter.unusedVariables false
set_option linter.unusedSimpArgs false

/-- how many of the first so many slots of a segment are taken -/
def thr (Q : Plc → Option ByteArray) (sg : Int) : Nat → Nat
  | 0 => 0
  | k + 1 => thr Q sg k + if (Q (sg, (k : Int))).isSome = true then 1 else 0
theorem thr_le (Q : Plc → Option ByteArray) (sg : Int) : ∀ k, thr Q sg k ≤ k
  | 0 => Nat.le_refl _
  | k + 1 => by
    have := thr_le Q sg k
    unfold thr
    split <;> omega
theorem thr_put {Q : Plc → Option ByteArray} {sg : Int} {x : Plc} {s : ByteArray} (hx : Q x = none) (h0 : 0 ≤ x.2) : ∀ k : Nat, thr (updM Q x (some s)) sg k = thr Q sg k + if x.1 = sg ∧ x.2 < (k : Int) then 1 else 0
  | 0 => by
    rw [if_neg (fun h => by have := h.2; omega)]
    rfl
  | k + 1 => by
    have ih := thr_put (sg := sg) (s := s) hx h0 k
    unfold thr
    rw [ih]
    by_cases he : (sg, (k : Int)) = x
    · subst he
      rw [updM_same, hx, if_neg (fun h => by have := h.2; simp at this), if_pos (by rfl), if_neg (by decide), if_pos ⟨rfl, by show (k : Int) < ((k + 1 : Nat) : Int); omega⟩]
    · rw [updM_other he]
      have : (x.1 = sg ∧ x.2 < ((k + 1 : Nat) : Int)) ↔ (x.1 = sg ∧ x.2 < (k : Int)) := by
        constructor
        · rintro ⟨h1, h2⟩
          refine ⟨h1, ?_⟩
          rcases (by omega : x.2 < (k : Int) ∨ x.2 = (k : Int)) with h | h
          · exact h
          · exact absurd (Prod.ext h1.symm h.symm) he
        · rintro ⟨h1, h2⟩
          exact ⟨h1, by omega⟩
      rw [ite_iff this]
      omega
theorem filQ_snoc {L : List Rec} {q : Nat} (h : q < L.length) : filQ L (q + 1) = filQ L q ++ (if L[q].ok then [(plc q, L[q].id)] else []) := by
  unfold filQ
  rw [List.range_succ, List.filterMap_append]
  congr 1
  rw [List.filterMap_cons, List.getElem?_eq_getElem h]
  by_cases ho : L[q].ok <;> simp [ho]
theorem thr_fil {L : List Rec} (sg : Int) : ∀ q, q ≤ L.length → ((filQ L q).map (gonG sg)).sum = (thr (fil L q).2 sg 4 : Int)
  | 0, _ => by
    have h : ∀ k, thr (fil L 0).2 sg k = 0 := fun k => by
      induction k with
      | zero => rfl
      | succ k ih => show thr (fil L 0).2 sg k + (if ((none : Option ByteArray)).isSome = true then 1 else 0) = 0; rw [ih]; rfl
    rw [h]; rfl
  | q + 1, hq => by
    have hql : q < L.length := by omega
    rw [filQ_snoc hql, List.map_append, List.sum_append, thr_fil sg q (by omega), fil_step hql]
    show _ = (thr (addQ (fil L q).2 L[q] (plc q)) sg 4 : Int)
    by_cases ho : L[q].ok
    · rw [addQ_yes ⟨fil_free (by omega), ho⟩, thr_put (fil_free (by omega)) (by show (0 : Int) ≤ ((q % 4 : Nat) : Int); omega), if_pos ho]
      simp only [List.map_cons, List.map_nil, List.sum_cons, List.sum_nil]
      have h4 : (plc q).2 < ((4 : Nat) : Int) := by show ((q % 4 : Nat) : Int) < _; omega
      unfold gonG
      by_cases hs : (plc q).1 = sg
      · rw [if_pos hs, if_pos ⟨hs, h4⟩]; omega
      · rw [if_neg hs, if_neg (fun h => hs h.1)]; omega
    · rw [addQ_no (fun h => ho h.2), if_neg ho]
      simp
/-- an entry stands at its place -/
theorem fil_stand {L : List Rec} {q : Nat} (hq : q ≤ L.length) {i : ByteArray} {e : Ent} (h : (fil L q).1 i = some e) : (fil L q).2 e.at_ = some i := by
  obtain ⟨k, ⟨h1, h2, h3, h4, h5⟩, rfl⟩ := (fil_n q hq i).1 e h
  exact (fil_q q hq _ _).2 ⟨k, h2, h1, h3, rfl, h4⟩
theorem sum_zero {α : Type} {g : α → Int} : ∀ {l : List α}, (∀ p ∈ l, g p = 0) → (l.map g).sum = 0
  | [], _ => rfl
  | p :: l, h => by
    rw [List.map_cons, List.sum_cons, h p (List.mem_cons_self ..), sum_zero (fun x hx => h x (List.mem_cons_of_mem _ hx))]; rfl
theorem goneN1_seg {N : ByteArray → Option Ent} {Q : Plc → Option ByteArray} {sg : Int} (hs : ∀ i e, N i = some e → Q e.at_ = some i) {i : ByteArray} {e : Ent} (h : goneN1 N Q sg i = some e) : e.seg ≠ sg := by
  unfold goneN1 at h
  cases hn : N i with
  | none => rw [hn] at h; cases h
  | some e' =>
    rw [hn] at h
    simp only at h
    by_cases hc : e'.seg = sg ∧ Q e'.at_ = some i
    · rw [if_pos hc] at h; cases h
    · rw [if_neg hc] at h
      cases h
      exact fun he => hc ⟨he, hs _ _ hn⟩
theorem goneN1_of {N : ByteArray → Option Ent} {Q : Plc → Option ByteArray} {sg : Int} {i : ByteArray} {e : Ent} (h : goneN1 N Q sg i = some e) : N i = some e := by
  unfold goneN1 at h
  cases hn : N i with
  | none => rw [hn] at h; cases h
  | some e' =>
    rw [hn] at h
    simp only at h
    by_cases hc : e'.seg = sg ∧ Q e'.at_ = some i
    · rw [if_pos hc] at h; cases h
    · rw [if_neg hc] at h; exact h
theorem in_gone {N : ByteArray → Option Ent} {Q : Plc → Option ByteArray} {sg : Int} (hs : ∀ i e, N i = some e → Q e.at_ = some i) {l : List (ByteArray × Ent)} (h : En (goneN1 N Q sg) l) : (l.map (inA sg)).sum = 0 ∧ (l.map (inB sg)).sum = 0 ∧ (l.map (inC sg)).sum = 0 := by
  have hp : ∀ p ∈ l, p.2.seg ≠ sg := fun p hp => goneN1_seg hs ((h.2 p.1 p.2).1 hp)
  exact ⟨sum_zero fun p hm => if_neg (hp p hm), sum_zero fun p hm => if_neg (fun h => hp p hm h.1), sum_zero fun p hm => if_neg (fun h => hp p hm h.1)⟩
theorem oth_gone {sg : Int} {i : ByteArray} : ∀ {l : List (Plc × ByteArray)}, (∀ p ∈ l, p.1.1 ≠ -1) → ((l.filter fun p => !decide (p.1.1 = sg)).map (othG i (-1))).sum = (l.map (othG i sg)).sum
  | [], _ => rfl
  | p :: l, h => by
    have ih := oth_gone (sg := sg) (i := i) (l := l) (fun x hx => h x (List.mem_cons_of_mem _ hx))
    have h1 := h p (List.mem_cons_self ..)
    by_cases hs : p.1.1 = sg
    · rw [List.filter_cons_of_neg (by simp [hs]), ih, List.map_cons, List.sum_cons, show othG i sg p = 0 from if_neg (fun h => h.1 hs), Int.zero_add]
    · rw [List.filter_cons_of_pos (by simp [hs]), List.map_cons, List.sum_cons, ih, List.map_cons, List.sum_cons]
      congr 1
      unfold othG
      by_cases hi : p.2 = i
      · rw [if_pos ⟨h1, hi⟩, if_pos ⟨hs, hi⟩]
      · rw [if_neg (fun h => hi h.2), if_neg (fun h => hi h.2)]
theorem gon_gone {sg : Int} {l : List (Plc × ByteArray)} : ((l.filter fun p => !decide (p.1.1 = sg)).map (gonG sg)).sum = 0 :=
  sum_zero fun p hm => by
    have := (List.mem_filter.1 hm).2
    exact if_neg (by simpa using this)
theorem goneQ1_at {Q : Plc → Option ByteArray} {sg : Int} {p : Plc} (h : p.1 = sg) : goneQ1 Q sg p = none := if_pos h
theorem filQ_pos {L : List Rec} {q : Nat} : ∀ p ∈ filQ L q, p.1.1 ≠ -1 := fun p hp => by
  obtain ⟨k, _, _, _, h, _⟩ := filQ_mem.1 (show (p.1, p.2) ∈ filQ L q from hp)
  rw [← h]
  show ((k / 4 : Nat) : Int) ≠ -1
  omega
end Go.Proofs.Ythpompgcnemanaa.G
