/- The newest records, in plain Lean. -/
import Derived.Test.YtlnhdbbhlcpkbaaRm
import Derived.Lib.Bytealg
namespace Go.Proofs.Ytlnhdbbhlcpkbaa.G
open Go.RowKit Go.Maps
set_option linter.unusedVariables false
set_option linter.unusedSimpArgs false

/-- one is put in, in order of ids -/
def insR (r : Rec) : List Rec → List Rec
  | [] => [r]
  | x :: xs => if bl8 x.id < bl8 r.id then x :: insR r xs else if x.id = r.id then (if x.ver ≤ r.ver then r :: xs else x :: xs) else r :: x :: xs
def stepL (acc : List Rec) (r : Rec) : List Rec := if r.kind = 1 ∨ r.kind = 2 then insR r acc else acc
/-- the newest ones -/
def newL (l : List Rec) : List Rec := l.foldl stepL []
theorem newL_snoc (l : List Rec) (r : Rec) : newL (l ++ [r]) = stepL (newL l) r := by unfold newL; rw [List.foldl_append]; rfl
def look (acc : List Rec) (k : ByteArray) : Option Rec := acc.find? (fun r => r.id = k)
def Srt (acc : List Rec) : Prop := acc.Pairwise fun a b => bl8 a.id < bl8 b.id
theorem irrR (x : List UInt8) : ¬ x < x := List.lt_irrefl x
theorem totR {x y : List UInt8} (h1 : ¬ x < y) (h2 : x ≠ y) : y < x := by
  rcases Decidable.em (y < x) with h | h
  · exact h
  · exact absurd (List.le_antisymm (List.not_lt.1 h) (List.not_lt.1 h1)) h2
theorem ins_mem (r : Rec) : ∀ (acc : List Rec) (y : Rec), y ∈ insR r acc → y = r ∨ y ∈ acc
  | [], y, h => Or.inl (List.mem_singleton.1 h)
  | x :: xs, y, h => by
    unfold insR at h
    split at h
    · rcases List.mem_cons.1 h with rfl | h
      · exact Or.inr (List.mem_cons_self ..)
      · rcases ins_mem r xs y h with h | h
        · exact Or.inl h
        · exact Or.inr (List.mem_cons_of_mem _ h)
    · split at h
      · split at h
        · rcases List.mem_cons.1 h with rfl | h
          · exact Or.inl rfl
          · exact Or.inr (List.mem_cons_of_mem _ h)
        · exact Or.inr h
      · rcases List.mem_cons.1 h with rfl | h
        · exact Or.inl rfl
        · exact Or.inr h
theorem ins_srt (r : Rec) : ∀ (acc : List Rec), Srt acc → Srt (insR r acc)
  | [], _ => List.pairwise_singleton _ _
  | x :: xs, h => by
    unfold Srt at *
    obtain ⟨h1, h2⟩ := List.pairwise_cons.1 h
    unfold insR
    split
    · rename_i hlt
      refine List.pairwise_cons.2 ⟨fun y hy => ?_, ins_srt r xs h2⟩
      rcases ins_mem r xs y hy with rfl | hy
      · exact hlt
      · exact h1 y hy
    · rename_i hlt
      split
      · rename_i he
        split
        · exact List.pairwise_cons.2 ⟨fun y hy => by rw [← he]; exact h1 y hy, h2⟩
        · exact h
      · rename_i he
        have hrx : bl8 r.id < bl8 x.id := totR hlt (fun e => he (bl8_inj e))
        refine List.pairwise_cons.2 ⟨fun y hy => ?_, h⟩
        rcases List.mem_cons.1 hy with rfl | hy
        · exact hrx
        · exact List.lt_trans hrx (h1 y hy)
theorem step_srt {acc : List Rec} (r : Rec) (h : Srt acc) : Srt (stepL acc r) := by
  unfold stepL; split
  · exact ins_srt r acc h
  · exact h
theorem newL_srt (l : List Rec) : Srt (newL l) := by
  rw [← List.reverse_reverse l]
  induction l.reverse with
  | nil => exact List.Pairwise.nil
  | cons a r ih => rw [List.reverse_cons, newL_snoc]; exact step_srt a ih
theorem look_id {acc : List Rec} {k : ByteArray} {r : Rec} (h : look acc k = some r) : r.id = k ∧ r ∈ acc := by
  unfold look at h
  exact ⟨by simpa using List.find?_some h, List.mem_of_find?_eq_some h⟩
theorem look_none {acc : List Rec} {k : ByteArray} (h : ∀ r ∈ acc, r.id ≠ k) : look acc k = none := by
  unfold look
  rw [List.find?_eq_none]
  intro r hr
  simpa using h r hr
theorem look_cons (x : Rec) (xs : List Rec) (k : ByteArray) : look (x :: xs) k = if x.id = k then some x else look xs k := by
  unfold look
  rw [List.find?_cons]
  by_cases h : x.id = k
  · simp [h]
  · simp [h]
theorem look_mem {acc : List Rec} (hs : Srt acc) (r : Rec) : look acc r.id = some r ↔ r ∈ acc := by
  refine ⟨fun h => (look_id h).2, fun h => ?_⟩
  induction acc with
  | nil => cases h
  | cons x xs ih =>
    obtain ⟨h1, h2⟩ := List.pairwise_cons.1 hs
    rw [look_cons]
    rcases List.mem_cons.1 h with rfl | h
    · rw [if_pos rfl]
    · rw [if_neg (fun e => irrR (bl8 r.id) (by have := h1 r h; rwa [e] at this))]
      exact ih h2 h
/-- what stands behind a step -/
def newer (x : Option Rec) (r : Rec) : Rec := match x with | some x => if x.ver ≤ r.ver then r else x | none => r
theorem look_ins (r : Rec) : ∀ (acc : List Rec), Srt acc → look (insR r acc) = upd (look acc) r.id (some (newer (look acc r.id) r))
  | [], _ => by
    funext k
    unfold insR upd
    rw [look_cons]
    by_cases h : k = r.id
    · rw [if_pos h, if_pos h.symm]; rfl
    · rw [if_neg h, if_neg (fun e => h e.symm)]
  | x :: xs, hs => by
    obtain ⟨h1, h2⟩ := List.pairwise_cons.1 hs
    funext k
    unfold insR
    by_cases hlt : bl8 x.id < bl8 r.id
    · have hne : x.id ≠ r.id := fun e => irrR _ (by rw [e] at hlt; exact hlt)
      rw [if_pos hlt, look_cons, look_ins r xs h2, look_cons x xs r.id, if_neg hne]
      unfold upd
      rw [look_cons]
      by_cases hk : k = r.id
      · rw [if_pos hk, if_pos hk, if_neg (fun e => hne (e.trans hk))]
      · rw [if_neg hk, if_neg hk]
    · rw [if_neg hlt]
      by_cases he : x.id = r.id
      · rw [if_pos he, look_cons x xs r.id, if_pos he]
        unfold upd newer
        simp only
        by_cases hv : x.ver ≤ r.ver
        · rw [if_pos hv, if_pos hv, look_cons, look_cons, he]
          by_cases hk : k = r.id
          · rw [if_pos hk, if_pos hk.symm]
          · rw [if_neg hk, if_neg (fun e => hk e.symm), if_neg (fun e => hk e.symm)]
        · rw [if_neg hv, if_neg hv, look_cons, he]
          by_cases hk : k = r.id
          · rw [if_pos hk, if_pos hk.symm]
          · rw [if_neg hk, if_neg (fun e => hk e.symm)]
      · have hrx : bl8 r.id < bl8 x.id := totR hlt (fun e => he (bl8_inj e))
        have hn : look (x :: xs) r.id = none := look_none (fun y hy e => by
          rcases List.mem_cons.1 hy with rfl | hy
          · exact he e
          · have := List.lt_trans hrx (h1 y hy); rw [e] at this; exact irrR _ this)
        rw [if_neg he, hn, look_cons]
        unfold upd newer
        simp only
        by_cases hk : k = r.id
        · rw [if_pos hk, if_pos hk.symm]
        · rw [if_neg hk, if_neg (fun e => hk e.symm)]
theorem srt_ext {a b : List Rec} (ha : Srt a) (hb : Srt b) (h : ∀ r, r ∈ a ↔ r ∈ b) : a = b := by
  have nd : ∀ {l : List Rec}, Srt l → l.Nodup := fun hl => hl.imp fun {a b} h e => by subst e; exact irrR _ h
  have hp : a.Perm b := (List.perm_ext_iff_of_nodup (nd ha) (nd hb)).2 h
  exact List.Perm.eq_of_pairwise (le := fun (x y : Rec) => bl8 x.id < bl8 y.id) (fun a b _ _ h1 h2 => absurd (List.lt_trans h1 h2) (irrR _)) ha hb hp
theorem ins_len (r : Rec) : ∀ acc : List Rec, (insR r acc).length ≤ acc.length + 1
  | [] => Nat.le_refl _
  | x :: xs => by
    unfold insR
    split
    · have := ins_len r xs; simp only [List.length_cons]; omega
    · split
      · split <;> simp only [List.length_cons] <;> omega
      · simp only [List.length_cons]; omega
theorem newL_len (l : List Rec) : (newL l).length ≤ l.length := by
  rw [← List.reverse_reverse l]
  induction l.reverse with
  | nil => exact Nat.le_refl _
  | cons a r ih =>
    rw [List.reverse_cons, newL_snoc, List.length_append]
    unfold stepL
    split
    · have := ins_len a (newL r.reverse); simp only [List.length_cons, List.length_nil]; omega
    · simp only [List.length_cons, List.length_nil]; omega
theorem step_mem {acc : List Rec} {r y : Rec} (h : y ∈ stepL acc r) : (y = r ∧ (r.kind = 1 ∨ r.kind = 2)) ∨ y ∈ acc := by
  unfold stepL at h
  split at h
  · rename_i hk
    rcases ins_mem r acc y h with h | h
    · exact Or.inl ⟨h, hk⟩
    · exact Or.inr h
  · exact Or.inr h
/-- a newest one is one of them -/
theorem newL_sub (l : List Rec) : ∀ y ∈ newL l, y ∈ l ∧ (y.kind = 1 ∨ y.kind = 2) := by
  rw [← List.reverse_reverse l]
  induction l.reverse with
  | nil => intro y h; cases h
  | cons a r ih =>
    rw [List.reverse_cons, newL_snoc]
    intro y h
    rcases step_mem h with ⟨rfl, hk⟩ | h
    · exact ⟨by simp, hk⟩
    · exact ⟨List.mem_append_left _ (ih y h).1, (ih y h).2⟩
theorem cmpB_lt : ∀ (a b : List UInt8), Lib.compareBytes a b < 0 ↔ a < b
  | [], [] => by simp [Lib.compareBytes]
  | [], y :: b => by simp [Lib.compareBytes]
  | x :: a, [] => by simp [Lib.compareBytes]
  | x :: a, y :: b => by
    unfold Lib.compareBytes
    rw [List.cons_lt_cons_iff]
    by_cases h : x < y
    · simp [h]
    · by_cases h2 : y < x
      · simp only [h, h2, if_true, if_false, false_or]
        exact ⟨fun h3 => absurd h3 (by decide), fun h3 => absurd h3.1 (fun e => UInt8.lt_irrefl y (by rw [e] at h2; exact h2))⟩
      · have e : x = y := UInt8.le_antisymm (UInt8.not_lt.1 h2) (UInt8.not_lt.1 h)
        subst e
        simp only [h, if_false, false_or, true_and]
        exact cmpB_lt a b
end Go.Proofs.Ytlnhdbbhlcpkbaa.G
