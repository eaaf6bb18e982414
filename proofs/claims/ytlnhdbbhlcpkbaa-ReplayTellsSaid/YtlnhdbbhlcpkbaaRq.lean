/- Laws of the newest records, in plain Lean. -/
import Derived.Test.YtlnhdbbhlcpkbaaRt
namespace Go.Proofs.Ytlnhdbbhlcpkbaa.G
open Go.RowKit Go.Maps
set_option linter.unusedVariables false
set_option linter.unusedSimpArgs false

/-- of two the newer one: the other one, if it is as new -/
def comb : Option Rec → Option Rec → Option Rec
  | none, y => y
  | some a, none => some a
  | some a, some b => if a.ver ≤ b.ver then some b else some a
theorem comb_none (x : Option Rec) : comb x none = x := by cases x <;> rfl
theorem comb_assoc (x y z : Option Rec) : comb (comb x y) z = comb x (comb y z) := by
  cases x with
  | none => rfl
  | some a =>
    cases y with
    | none => rfl
    | some b =>
      cases z with
      | none => rw [comb_none, comb_none]
      | some c =>
        unfold comb
        simp only
        by_cases h1 : a.ver ≤ b.ver <;> by_cases h2 : b.ver ≤ c.ver <;> simp only [h1, h2, if_true, if_false]
        · rw [if_pos (show a.ver ≤ c.ver by omega)]
        · rw [if_neg (show ¬ a.ver ≤ c.ver by omega)]
theorem comb_self (x : Option Rec) : comb x x = x := by
  cases x with
  | none => rfl
  | some a => unfold comb; simp only; rw [if_pos (Nat.le_refl _)]
/-- what one record says of a key -/
def sing (r : Rec) (k : ByteArray) : Option Rec := if (r.kind = 1 ∨ r.kind = 2) ∧ r.id = k then some r else none
theorem look_step {acc : List Rec} (h : Srt acc) (r : Rec) (k : ByteArray) : look (stepL acc r) k = comb (look acc k) (sing r k) := by
  unfold stepL sing
  by_cases hk : r.kind = 1 ∨ r.kind = 2
  · rw [if_pos hk, look_ins r acc h]
    unfold upd
    by_cases e : k = r.id
    · subst e
      rw [if_pos rfl, if_pos ⟨hk, rfl⟩]
      unfold newer comb
      cases look acc r.id with
      | none => rfl
      | some x => simp only; split <;> rfl
    · rw [if_neg e, if_neg (fun h => e h.2.symm), comb_none]
  · rw [if_neg hk, if_neg (fun h => hk h.1), comb_none]
theorem look_app (l : List Rec) (k : ByteArray) : ∀ m : List Rec, look (newL (l ++ m)) k = comb (look (newL l) k) (look (newL m) k) := by
  intro m
  rw [← List.reverse_reverse m]
  induction m.reverse with
  | nil => show look (newL (l ++ [])) k = comb _ none; rw [List.append_nil, comb_none]
  | cons a r ih => rw [List.reverse_cons, ← List.append_assoc, newL_snoc, newL_snoc, look_step (newL_srt _), look_step (newL_srt _), ih, comb_assoc]
theorem look_one (r : Rec) (k : ByteArray) : look (newL [r]) k = sing r k := by
  have := newL_snoc [] r
  rw [List.nil_append] at this
  rw [this, look_step (newL_srt [])]
  rfl
theorem look_ext {a b : List Rec} (ha : Srt a) (hb : Srt b) (h : ∀ k, look a k = look b k) : a = b :=
  srt_ext ha hb fun r => by rw [← look_mem ha, ← look_mem hb, h]
theorem newL_ext {l m : List Rec} (h : ∀ k, look (newL l) k = look (newL m) k) : newL l = newL m := look_ext (newL_srt l) (newL_srt m) h
theorem look_append (a b : List Rec) (k : ByteArray) : look (a ++ b) k = (look a k).or (look b k) := by
  unfold look; rw [List.find?_append]
/-- what is sorted, and live or gone, is its own newest -/
theorem newL_id {acc : List Rec} (hs : Srt acc) (hk : ∀ r ∈ acc, r.kind = 1 ∨ r.kind = 2) : newL acc = acc := by
  refine look_ext (newL_srt _) hs fun k => ?_
  revert hs hk
  rw [← List.reverse_reverse acc]
  induction acc.reverse with
  | nil => intro _ _; rfl
  | cons r a ih =>
    rw [List.reverse_cons]
    intro hs hk
    have h1 := List.pairwise_append.1 hs
    rw [newL_snoc, look_step (newL_srt _), ih h1.1 (fun x hx => hk x (List.mem_append_left _ hx)), look_append]
    have e : look [r] k = if r.id = k then some r else none := by rw [look_cons]; rfl
    rw [e]
    unfold sing
    by_cases hr : r.id = k
    · rw [if_pos ⟨hk r (by simp), hr⟩, if_pos hr]
      have hn : look a.reverse k = none := look_none (fun x hx hxe => by
        have := h1.2.2 x hx r (List.mem_singleton.2 rfl)
        rw [hxe, hr] at this
        exact irrR _ this)
      rw [hn]; rfl
    · rw [if_neg (fun h => hr h.2), if_neg hr, comb_none]
      cases look a.reverse k <;> rfl
theorem newL_newL (l : List Rec) : newL (newL l) = newL l := newL_id (newL_srt l) (fun r hr => (newL_sub l r hr).2)
theorem newL_joins (l m : List Rec) : newL (newL l ++ newL m) = newL (l ++ m) := newL_ext fun k => by rw [look_app, look_app, newL_newL, newL_newL]
theorem newL_twice (l : List Rec) : newL (l ++ newL l) = newL l := newL_ext fun k => by rw [look_app, newL_newL, comb_self]
theorem newL_turned : ∀ l : List Rec, l.Pairwise (fun a b => ¬ (a.id = b.id ∧ a.ver = b.ver)) → newL l.reverse = newL l := by
  intro l
  rw [← List.reverse_reverse l]
  induction l.reverse with
  | nil => intro _; rfl
  | cons r a ih =>
    rw [List.reverse_cons]
    intro hp
    have h1 := List.pairwise_append.1 hp
    have ih := ih h1.1
    refine newL_ext fun k => ?_
    rw [List.reverse_append, List.reverse_singleton, look_app, look_app, ih, look_one]
    unfold sing
    by_cases hr : (r.kind = 1 ∨ r.kind = 2) ∧ r.id = k
    · rw [if_pos hr]
      cases hx : look (newL a.reverse) k with
      | none => rfl
      | some x =>
        obtain ⟨h3, h4⟩ := look_id hx
        have h5 := h1.2.2 x (newL_sub _ x h4).1 r (List.mem_singleton.2 rfl)
        have h6 : x.ver ≠ r.ver := fun e => h5 ⟨by rw [h3, hr.2], e⟩
        unfold comb
        simp only
        by_cases h7 : x.ver ≤ r.ver
        · rw [if_pos h7, if_neg (by omega)]
        · rw [if_neg h7, if_pos (by omega)]
    · rw [if_neg hr, comb_none]; rfl
/-- without one that is not the newest of its id -/
theorem newL_less (l : List Rec) (q : Nat) (hq : q < l.length) (hf : ∀ n ∈ newL l, ¬ (n.id = l[q].id ∧ n.ver = l[q].ver)) : newL (l.take q ++ l.drop (q + 1)) = newL l := by
  refine newL_ext fun k => ?_
  have hl : l = l.take q ++ ([l[q]] ++ l.drop (q + 1)) := by rw [List.singleton_append, List.getElem_cons_drop, List.take_append_drop]
  obtain ⟨r, hr⟩ : ∃ r, r = l[q] := ⟨_, rfl⟩
  have e1 : look (newL l) k = comb (look (newL (l.take q)) k) (comb (sing r k) (look (newL (l.drop (q + 1))) k)) := by
    rw [← look_one, ← look_app, ← look_app, hr, ← hl]
  rw [look_app, e1]
  rw [← hr] at hf
  by_cases hs : (r.kind = 1 ∨ r.kind = 2) ∧ r.id = k
  · have e2 : sing r k = some r := if_pos hs
    rw [e2] at e1 ⊢
    obtain ⟨A, hA⟩ : ∃ A, A = look (newL (l.take q)) k := ⟨_, rfl⟩
    obtain ⟨C, hC⟩ : ∃ C, C = look (newL (l.drop (q + 1))) k := ⟨_, rfl⟩
    rw [← hA, ← hC] at e1 ⊢
    have hn : ∀ n, look (newL l) k = some n → n.ver ≠ r.ver := fun n hn e => by
      obtain ⟨h1, h2⟩ := look_id hn
      exact hf n h2 ⟨by rw [h1, hs.2], e⟩
    rw [e1] at hn
    clear e1 e2 hA hC hf hl
    cases A with
    | none =>
      cases C with
      | none => exact absurd rfl (hn r rfl)
      | some c =>
        unfold comb at hn ⊢
        simp only at hn ⊢
        by_cases h : r.ver ≤ c.ver
        · rw [if_pos h]
        · rw [if_neg h] at hn; exact absurd rfl (hn r rfl)
    | some a =>
      cases C with
      | none =>
        unfold comb at hn ⊢
        simp only at hn ⊢
        by_cases h : a.ver ≤ r.ver
        · rw [if_pos h] at hn; exact absurd rfl (hn r rfl)
        · rw [if_neg h]
      | some c =>
        unfold comb at hn ⊢
        simp only at hn ⊢
        by_cases h1 : r.ver ≤ c.ver
        · rw [if_pos h1]
        · rw [if_neg h1] at hn ⊢
          simp only at hn ⊢
          by_cases h2 : a.ver ≤ r.ver
          · rw [if_pos h2] at hn; exact absurd rfl (hn r rfl)
          · rw [if_neg h2, if_neg (by omega)]
  · rw [show sing r k = none from if_neg hs]; rfl
end Go.Proofs.Ytlnhdbbhlcpkbaa.G
