/- Lists of structs in memory, whatever their cells: what a slice of them reads, and what is laid anew. -/
import Derived.Test.YthpompgcnemanaaGMisc
import Derived.Deep.AppendLies
import Derived.Laws.Rows
import Derived.Below
namespace Go.Proofs.Ythpompgcnemanaa.G
open Go.RowKit
set_option linter.unusedVariables false
set_option linter.unusedSimpArgs false

theorem lt_of_rowR {W : World} {g : Nat} {o : Obj} (h : W.heap[g]? = some o) : g < W.heap.size := by
  rcases Nat.lt_or_ge g W.heap.size with h' | h'
  · exact h'
  · rw [Array.getElem?_eq_none h'] at h; cases h
theorem lt_of_cellR {w : World} {b o : Nat} {v : Value} (h : w.cell? ⟨b, o, none⟩ = some v) : b < w.heap.size := by
  rcases Nat.lt_or_ge b w.heap.size with h' | h'
  · exact h'
  · unfold World.cell? at h
    rw [Array.getElem?_eq_none h'] at h
    simp at h
theorem add_noneR (b o n : Nat) : (⟨b, o, none⟩ : Addr).add n = ⟨b, o + n, none⟩ := by
  unfold Addr.add
  split
  · rename_i h; subst h; rfl
  · rfl
variable {α : Type}
/-- a slice that reads as this list: k cells each -/
def LR (k : Nat) (enc : α → List Value) (w : World) (v : Value) (l : List α) : Prop :=
  ∃ oa cap, v = .slice oa l.length cap ∧ (l ≠ [] → l.length ≤ cap) ∧ ∀ i (h : i < l.length), ∃ b off, oa = some ⟨b, off, none⟩ ∧ ∀ j u, (enc l[i])[j]? = some u → w.cell? ⟨b, off + i * k + j, none⟩ = some u
theorem LR.below {k : Nat} {enc : α → List Value} {B : Nat} {w w' : World} {v : Value} {l : List α} (h : LR k enc w v l) (hb : Below B w w') (hB : w.heap.size ≤ B) : LR k enc w' v l := by
  obtain ⟨oa, cap, h1, h2, h3⟩ := h
  refine ⟨oa, cap, h1, h2, fun i hi => ?_⟩
  obtain ⟨b, off, h4, h5⟩ := h3 i hi
  refine ⟨b, off, h4, fun j u hu => ?_⟩
  have := h5 j u hu
  rw [hb.cell (p := ⟨b, off + i * k + j, none⟩) (Nat.lt_of_lt_of_le (lt_of_cellR this) hB)]
  exact this
theorem LR.form {k : Nat} {enc : α → List Value} {w : World} {v : Value} {l : List α} (h : LR k enc w v l) : ∃ oa cap, v = .slice oa l.length cap := let ⟨oa, cap, h, _⟩ := h; ⟨oa, cap, h⟩
theorem LR.nil (k : Nat) (enc : α → List Value) (w : World) (oa : Option Addr) (cap : Nat) : LR k enc w (.slice oa 0 cap) [] := ⟨oa, cap, rfl, fun h => absurd rfl h, fun i h => absurd h (Nat.not_lt_zero _)⟩
theorem LR.first {k : Nat} {enc : α → List Value} {w : World} {oa : Option Addr} {n cap : Nat} {l : List α} (h : LR k enc w (.slice oa n cap) l) (m : Nat) (hm : m ≤ l.length) : LR k enc w (.slice oa m cap) (l.take m) := by
  obtain ⟨oa', cap', h1, h2, h3⟩ := h
  injection h1 with e1 e2 e3
  subst e1 e2 e3
  have hl : (l.take m).length = m := by rw [List.length_take]; omega
  refine ⟨oa, cap, by rw [hl], fun h0 => ?_, fun i hi => ?_⟩
  · have : l ≠ [] := fun e => h0 (by rw [e]; simp)
    have := h2 this
    omega
  · rw [hl] at hi
    rw [List.getElem_take]
    exact h3 i (by omega)
/-- a row that the call owns -/
abbrev OwnL (base : Nat) (ty : TypeId) (k : Nat) (enc : α → List Value) (w : World) (v : Value) (l : List α) : Prop := w.ownsRow base ty k v l.length (l.flatMap enc)
theorem flat_at (k : Nat) (enc : α → List Value) (he : ∀ x, (enc x).length = k) : ∀ (l : List α) (i j : Nat) (hi : i < l.length), j < k → (l.flatMap enc)[i * k + j]? = (enc l[i])[j]?
  | [], i, j, hi, _ => absurd hi (Nat.not_lt_zero _)
  | a :: l, 0, j, _, hj => by
    rw [List.flatMap_cons, Nat.zero_mul, Nat.zero_add, List.getElem?_append_left (by rw [he]; exact hj)]
    rfl
  | a :: l, i + 1, j, hi, hj => by
    have hi' : i < l.length := by simpa using hi
    rw [List.flatMap_cons, List.getElem?_append_right (by rw [he]; rw [Nat.add_mul, Nat.one_mul]; omega), he]
    rw [show (i + 1) * k + j - k = i * k + j by rw [Nat.add_mul, Nat.one_mul]; omega]
    exact flat_at k enc he l i j hi' hj
theorem own_atR {w : World} {base : Nat} {e : TypeId} {size g cap n : Nat} {xs : List Value} (h : w.ownsRow base e size (.slice (some ⟨g, 0, none⟩) n cap) n xs) (j : Nat) (u : Value) (hu : xs[j]? = some u) : w.cell? ⟨g, j, none⟩ = some u := by
  obtain ⟨hl, h2⟩ := h
  rcases h2 with ⟨h0, _⟩ | ⟨g', cap', cur, hv, hb, hg, hn, hc, hsz, htk⟩
  · cases h0
  · injection hv with e1 e2 e3
    injection e1 with e1
    injection e1 with e1
    subst e1
    have hx : j < xs.length := by
      rcases Nat.lt_or_ge j xs.length with h | h
      · exact h
      · rw [List.getElem?_eq_none h] at hu; cases hu
    have := cell_of_row w g j cur e (0, 0) hg
    rw [this]
    rw [← htk, List.getElem?_take_of_lt (by omega)] at hu
    simpa using hu
theorem own_lr {base : Nat} {ty : TypeId} {k : Nat} {enc : α → List Value} (he : ∀ x, (enc x).length = k) {w : World} {v : Value} {l : List α} (h : OwnL base ty k enc w v l) : LR k enc w v l := by
  have h' := h
  obtain ⟨hl, h2⟩ := h'
  rcases h2 with ⟨rfl, h0⟩ | ⟨g, cap, cur, rfl, hb, hg, hn, _, _, _⟩
  · have : l = [] := List.length_eq_zero_iff.1 h0
    subst this
    exact LR.nil k enc w none 0
  · refine ⟨_, cap, rfl, fun _ => hn, fun i hi => ⟨g, 0, rfl, fun j u hu => ?_⟩⟩
    rw [Nat.zero_add]
    have hj : j < k := by
      rcases Nat.lt_or_ge j (enc l[i]).length with h | h
      · rw [he] at h; exact h
      · rw [List.getElem?_eq_none h] at hu; cases hu
    exact own_atR h _ _ ((flat_at k enc he l i j hi hj).trans hu)
theorem own_nil (base : Nat) (ty : TypeId) (k : Nat) (enc : α → List Value) (w : World) : OwnL base ty k enc w (.slice none 0 0) [] := ⟨by simp, Or.inl ⟨rfl, rfl⟩⟩
theorem own_new (w : World) (ty : TypeId) (k : Nat) (enc : α → List Value) (B : Nat) (hB : B ≤ w.heap.size) : OwnL B ty k enc (w.alloc (.cells #[] ty)) (.slice (some ⟨w.heap.size, 0, none⟩) 0 0) [] :=
  ⟨by simp, Or.inr ⟨w.heap.size, 0, #[], rfl, hB, heap_alloc_new _ _, Nat.le_refl _, by simp [maxLen], by simp, by simp⟩⟩
theorem flat_snoc (enc : α → List Value) (l : List α) (a : α) : (l ++ [a]).flatMap enc = l.flatMap enc ++ enc a := by simp
theorem alloc_sizeR (w : World) (o : Obj) : (w.alloc o).heap.size = w.heap.size + 1 := by show (w.heap.push o).size = _; rw [Array.size_push]
theorem grown_belowR {w w' : World} (h : Below w.heap.size w w') : w.grownBy w' none := ⟨h.os, h.tape, h.output, h.size, fun i hi _ => h.block i hi⟩
theorem below_grownR {B : Nat} {w w' : World} {row : Option Nat} (h : w.grownBy w' row) (hr : ∀ k, some k = row → B ≤ k) (hB : B ≤ w.heap.size) : Below B w w' :=
  ⟨h.os, h.tape, h.output, h.size, fun i hi => h.block i (by omega) (fun e => by have := hr i e; omega)⟩
theorem own_geR {w : World} {base : Nat} {e : TypeId} {size : Nat} {v : Value} {n : Nat} {xs : List Value} (h : w.ownsRow base e size v n xs) (k : Nat) (hk : some k = v.ownBlock) : base ≤ k ∧ k < w.heap.size := by
  rcases h.2 with ⟨rfl, _⟩ | ⟨g, cap, cur, rfl, hb, hg, _⟩
  · simp [Value.ownBlock] at hk
  · have : k = g := by simpa [Value.ownBlock] using hk
    subst this
    exact ⟨hb, lt_of_rowR hg⟩
theorem apartR {a b : Option Nat} (h : ∀ k, some k = a → some k ≠ b) : a = none ∨ a ≠ b := by
  cases a with
  | none => exact Or.inl rfl
  | some k => exact Or.inr (h k rfl)
theorem stepR {w w1 w2 : World} (h1 : Below w.heap.size w w1) (h2 : Below w1.heap.size w1 w2) : Below w.heap.size w w2 := h1.trans (h2.mono h1.size)
end Go.Proofs.Ythpompgcnemanaa.G
