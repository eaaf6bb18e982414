/- One record of a greater version than all: what lives then, in plain Lean; one cell of owned records that is stored anew. -/
import Derived.Test.YtlnhdbbhlcpkbaaRq
import Derived.Laws.OwnMore
namespace Go.Proofs.Ytlnhdbbhlcpkbaa.G
open Go.RowKit Go.Maps
set_option linter.unusedVariables false
set_option linter.unusedSimpArgs false

theorem ins_neq (r : Rec) : ∀ acc : List Rec, (insR r acc).filter (fun x => decide (x.id ≠ r.id)) = acc.filter (fun x => decide (x.id ≠ r.id))
  | [] => by simp [insR]
  | x :: xs => by
    unfold insR
    split
    · rw [List.filter_cons, List.filter_cons, ins_neq r xs]
    · split
      · rename_i he
        split
        · rw [List.filter_cons, List.filter_cons]; simp [he]
        · rfl
      · rw [List.filter_cons]; simp
theorem ins_in (r : Rec) : ∀ acc : List Rec, (∀ x ∈ acc, x.id = r.id → x.ver ≤ r.ver) → r ∈ insR r acc
  | [], _ => List.mem_singleton.2 rfl
  | x :: xs, h => by
    unfold insR
    split
    · exact List.mem_cons_of_mem _ (ins_in r xs (fun y hy => h y (List.mem_cons_of_mem _ hy)))
    · split
      · rename_i he
        rw [if_pos (h x (List.mem_cons_self ..) he)]
        exact List.mem_cons_self ..
      · exact List.mem_cons_self ..
theorem ins_only {r : Rec} {acc : List Rec} (hs : Srt acc) (h : ∀ x ∈ acc, x.id = r.id → x.ver ≤ r.ver) (y : Rec) (hy : y ∈ insR r acc) (he : y.id = r.id) : y = r := by
  have hS := ins_srt r acc hs
  have h1 := (look_mem hS y).2 hy
  have h2 := (look_mem hS r).2 (ins_in r acc h)
  rw [he, h2] at h1
  exact (Option.some.inj h1).symm
theorem ses_neq (now : Nat) (i : ByteArray) (acc : List Rec) : (sesL now acc).filter (fun x => decide (x.id ≠ i)) = sesL now (acc.filter (fun x => decide (x.id ≠ i))) := by
  unfold sesL
  rw [List.filter_map, List.filter_filter, List.filter_filter]
  congr 1
  apply List.filter_congr
  intro r _
  simp only [Function.comp]
  rw [Bool.and_comm]
theorem new_top (l : List Rec) (t : Rec) (ht : t.kind = 1 ∨ t.kind = 2) : newL (l ++ [t]) = insR t (newL l) := by
  rw [newL_snoc]; unfold stepL; rw [if_pos ht]
section
variable {l : List Rec} {t : Rec} {now : Nat}
theorem top_le (h : ∀ x ∈ l, x.ver ≤ t.ver) : ∀ x ∈ newL l, x.id = t.id → x.ver ≤ t.ver := fun x hx _ => h x (newL_sub l x hx).1
theorem top_neq (ht : t.kind = 1 ∨ t.kind = 2) : (sesL now (newL (l ++ [t]))).filter (fun x => decide (x.id ≠ t.id)) = (sesL now (newL l)).filter (fun x => decide (x.id ≠ t.id)) := by
  rw [new_top l t ht, ses_neq, ses_neq, ins_neq]
theorem top_is (ht : t.kind = 1 ∨ t.kind = 2) (h : ∀ x ∈ l, x.ver ≤ t.ver) {x : Ses} (hx : x ∈ sesL now (newL (l ++ [t]))) (he : x.id = t.id) : t.kind = 1 ∧ now < t.dl ∧ x = ⟨t.id, t.va, t.dl⟩ := by
  rw [new_top l t ht] at hx
  unfold sesL at hx
  obtain ⟨r, hr, rfl⟩ := List.mem_map.1 hx
  obtain ⟨h1, h2⟩ := List.mem_filter.1 hr
  have e := ins_only (newL_srt l) (top_le h) r h1 he
  subst e
  have h2 := of_decide_eq_true h2
  exact ⟨h2.1, h2.2, rfl⟩
theorem top_there (ht : t.kind = 1) (h : ∀ x ∈ l, x.ver ≤ t.ver) (hn : now < t.dl) : ⟨t.id, t.va, t.dl⟩ ∈ sesL now (newL (l ++ [t])) := by
  rw [new_top l t (Or.inl ht)]
  unfold sesL
  exact List.mem_map.2 ⟨t, List.mem_filter.2 ⟨ins_in t _ (top_le h), decide_eq_true ⟨ht, hn⟩⟩, rfl⟩
theorem top_gone (ht : t.kind = 2) (h : ∀ x ∈ l, x.ver ≤ t.ver) : sesL now (newL (l ++ [t])) = (sesL now (newL l)).filter (fun x => decide (x.id ≠ t.id)) := by
  rw [← top_neq (Or.inr ht)]
  symm
  rw [List.filter_eq_self]
  intro x hx
  by_cases he : x.id = t.id
  · have := (top_is (Or.inr ht) h hx he).1
    rw [ht] at this
    exact absurd this (by decide)
  · simp [he]
end
/-- so many of the first ones with their version's remainder -/
def Rec.low (r : Rec) : Rec := { r with ver := r.ver % 1000000 }
theorem Rec.Kind.low {r : Rec} (h : r.Kind) : r.low.Kind := ⟨h.lsn, h.ep, h.kind, by have := h.ver; show r.ver % 1000000 < _; omega, h.dl, h.id, h.va⟩
def lowI (l : List Rec) (q : Nat) : List Rec := (l.take q).map Rec.low ++ l.drop q
theorem lowI_len (l : List Rec) (q : Nat) : (lowI l q).length = l.length := by unfold lowI; rw [List.length_append, List.length_map, List.length_take, List.length_drop]; omega
theorem lowI_zero (l : List Rec) : lowI l 0 = l := by unfold lowI; simp
theorem lowI_all (l : List Rec) : lowI l l.length = l.map Rec.low := by unfold lowI; simp
theorem lowI_at (l : List Rec) (q : Nat) (h : q < l.length) (h' : q < (lowI l q).length) : (lowI l q)[q] = l[q] := by
  have e : (lowI l q)[q]? = l[q]? := by
    unfold lowI
    rw [List.getElem?_append_right (by rw [List.length_map, List.length_take]; omega), List.getElem?_drop]
    congr 1
    rw [List.length_map, List.length_take]
    omega
  rw [List.getElem?_eq_getElem h', List.getElem?_eq_getElem h] at e
  exact Option.some.inj e
theorem lowI_set (l : List Rec) (q : Nat) (h : q < l.length) : (lowI l q).set q l[q].low = lowI l (q + 1) := by
  unfold lowI
  rw [List.set_append_right _ _ (by rw [List.length_map, List.length_take]; omega), List.length_map, List.length_take, show q - min q l.length = 0 by omega, List.drop_eq_getElem_cons h, List.set_cons_zero, List.take_succ_eq_append_getElem h, List.map_append, List.append_assoc]
  rfl
section
variable {α : Type}
theorem flat_set (k : Nat) (enc : α → List Value) (he : ∀ x, (enc x).length = k) : ∀ (l : List α) (i j : Nat) (u : Value) (y : α) (hi : i < l.length), j < k → (enc l[i]).set j u = enc y → (l.flatMap enc).set (i * k + j) u = (l.set i y).flatMap enc
  | [], i, _, _, _, hi, _, _ => absurd hi (Nat.not_lt_zero _)
  | x :: xs, 0, j, u, y, _, hj, hy => by
    rw [Nat.zero_mul, Nat.zero_add, List.flatMap_cons, List.set_cons_zero, List.flatMap_cons, List.set_append_left _ _ (by rw [he]; exact hj)]
    rw [show (enc x).set j u = enc y from hy]
  | x :: xs, i + 1, j, u, y, hi, hj, hy => by
    rw [List.flatMap_cons, List.set_cons_succ, List.flatMap_cons, List.set_append_right _ _ (by rw [he, Nat.add_mul]; omega), he, show (i + 1) * k + j - k = i * k + j by rw [Nat.add_mul]; omega, flat_set k enc he xs i j u y (by simpa using hi) hj hy]
theorem own_set {base : Nat} {ty : TypeId} {k : Nat} {enc : α → List Value} (he : ∀ x, (enc x).length = k) {w : World} {g n cap : Nat} {l : List α} (hn : n = l.length) (h : OwnL base ty k enc w (.slice (some ⟨g, 0, none⟩) n cap) l) (i j : Nat) (u : Value) (y : α) (hi : i < l.length) (hj : j < k) (hy : (enc l[i]).set j u = enc y) :
    OwnL base ty k enc (w.setCell ⟨g, i * k + j, none⟩ u) (.slice (some ⟨g, 0, none⟩) n cap) (l.set i y) ∧ Below base w (w.setCell ⟨g, i * k + j, none⟩ u) ∧ w.frozen? ⟨g, i * k + j, none⟩ = false := by
  subst hn
  have s := World.ownsRow.stored h (i * k + j) u
  rw [flat_set k enc he l i j u y hi hj hy] at s
  have hb := own_geR h g rfl
  refine ⟨?_, below_grownR s.2 (fun k hk => by injection hk with hk; omega) (by omega), World.ownsRow.frozenAt h _⟩
  show World.ownsRow _ _ _ _ _ (l.set i y).length _
  rw [List.length_set]
  exact s.1
end
end Go.Proofs.Ytlnhdbbhlcpkbaa.G
