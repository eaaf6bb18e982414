/- The same acts? The contract of script.Same. -/
import Derived.Test.YtjkiofgllmjkcaaS3a
import Derived.Test.YtjkiofgllmjkcaaS3b
namespace Go.Proofs.Ytjkiofgllmjkcaa.G
open Go.RowKit
set_option linter.unusedVariables false
set_option linter.unusedSimpArgs false

theorem beqS (a b : ByteArray) : ((a.toList == b.toList) = true ∧ a = b) ∨ ((a.toList == b.toList) = false ∧ a ≠ b) := by
  by_cases h : a = b
  · exact Or.inl ⟨by rw [h]; exact beq_self_eq_true _, h⟩
  · refine Or.inr ⟨beq_eq_false_iff_ne.2 (fun e => h ?_), h⟩
    rw [ByteArray.toList_eq, ByteArray.toList_eq] at e
    cases a; cases b
    simp only [ByteArray.mk.injEq]
    exact Array.toList_inj.1 e
theorem beqN (a b : Nat) : (((a : Int) == (b : Int)) = true ∧ a = b) ∨ (((a : Int) == (b : Int)) = false ∧ a ≠ b) := by
  by_cases h : a = b
  · exact Or.inl ⟨by rw [h]; exact beq_self_eq_true _, h⟩
  · exact Or.inr ⟨beq_eq_false_iff_ne.2 (by omega), h⟩
theorem Same_val (a b : Ac) (va vb : Value) (w : World) (hl : a.keep.length ≤ 140737488351232) (ha : Sb w va a.keep) (hb : Sb w vb b.keep) (z : Bool) (hz : Hid (z = decide (a = b))) :
    Calls Try.prog 19 #[.agg (a.row va), .agg (b.row vb)] w fun e w' => e = .returned (.bool z) ∧ Below w.heap.size w w' := by
  have HK : ∀ W, Below w.heap.size w W → Calls Try.prog 38 #[va, vb] W fun e w' => e = .returned (.bool (decide (a.keep = b.keep))) ∧ Below W.heap.size W w' := fun W h => Eq_val a.keep b.keep va vb W hl (ha.below h (Nat.le_refl _)) (hb.below h (Nat.le_refl _)) _ (Lib.hid rfl)
  obtain ⟨oa, cap, rfl⟩ := ha.form
  obtain ⟨oa', cap', rfl⟩ := hb.form
  rw [hz.out]
  clear hz ha hb z
  obtain ⟨m, hm⟩ : ∃ m, m = a.keep.length := ⟨_, rfl⟩
  obtain ⟨m', hm'⟩ : ∃ m, m = b.keep.length := ⟨_, rfl⟩
  rw [← hm, ← hm'] at HK ⊢
  clear hm hm' hl
  obtain ⟨k, rk, i, v, t, p, n, l, to, pl⟩ := a
  obtain ⟨k', rk', i', v', t', p', n', l', to', pl'⟩ := b
  unfold Ac.row
  simp only at HK ⊢
  rcases beqI k k' with ⟨f0, e0⟩ | ⟨f0, e0⟩
  rotate_left
  · rw [decide_eq_false (fun h => e0 (by injection h))]
    exact same_0 k rk p to pl i v t n m cap oa k' rk' p' to' pl' i' v' t' n' m' cap' oa' w f0
  rcases beqI rk rk' with ⟨f1, e1⟩ | ⟨f1, e1⟩
  rotate_left
  · rw [decide_eq_false (fun h => e1 (by injection h))]
    exact same_1 k rk p to pl i v t n m cap oa k' rk' p' to' pl' i' v' t' n' m' cap' oa' w f0 f1
  rcases beqS i i' with ⟨f2, e2⟩ | ⟨f2, e2⟩
  rotate_left
  · rw [decide_eq_false (fun h => e2 (by injection h))]
    exact same_2 k rk p to pl i v t n m cap oa k' rk' p' to' pl' i' v' t' n' m' cap' oa' w f0 f1 f2
  rcases beqS v v' with ⟨f3, e3⟩ | ⟨f3, e3⟩
  rotate_left
  · rw [decide_eq_false (fun h => e3 (by injection h))]
    exact same_3 k rk p to pl i v t n m cap oa k' rk' p' to' pl' i' v' t' n' m' cap' oa' w f0 f1 f2 f3
  rcases beqN t t' with ⟨f4, e4⟩ | ⟨f4, e4⟩
  rotate_left
  · rw [decide_eq_false (fun h => e4 (by injection h))]
    exact same_4 k rk p to pl i v t n m cap oa k' rk' p' to' pl' i' v' t' n' m' cap' oa' w f0 f1 f2 f3 f4
  rcases beqI p p' with ⟨f5, e5⟩ | ⟨f5, e5⟩
  rotate_left
  · rw [decide_eq_false (fun h => e5 (by injection h))]
    exact same_5 k rk p to pl i v t n m cap oa k' rk' p' to' pl' i' v' t' n' m' cap' oa' w f0 f1 f2 f3 f4 f5
  rcases beqN n n' with ⟨f6, e6⟩ | ⟨f6, e6⟩
  rotate_left
  · rw [decide_eq_false (fun h => e6 (by injection h))]
    exact same_6 k rk p to pl i v t n m cap oa k' rk' p' to' pl' i' v' t' n' m' cap' oa' w f0 f1 f2 f3 f4 f5 f6
  by_cases e7 : l = l'
  case neg =>
    rw [decide_eq_false (fun h => e7 (by injection h))]
    rw [decide_eq_false e7] at HK
    exact same_7 k rk p to pl i v t n m cap oa k' rk' p' to' pl' i' v' t' n' m' cap' oa' w f0 f1 f2 f3 f4 f5 f6 (Lib.hid HK)
  rw [decide_eq_true e7] at HK
  rcases beqI to to' with ⟨f8, e8⟩ | ⟨f8, e8⟩
  rotate_left
  · rw [decide_eq_false (fun h => e8 (by injection h))]
    exact same_8 k rk p to pl i v t n m cap oa k' rk' p' to' pl' i' v' t' n' m' cap' oa' w f0 f1 f2 f3 f4 f5 f6 f8 (Lib.hid HK)
  rcases beqI pl pl' with ⟨f9, e9⟩ | ⟨f9, e9⟩
  rotate_left
  · rw [decide_eq_false (fun h => e9 (by injection h))]
    exact same_9 k rk p to pl i v t n m cap oa k' rk' p' to' pl' i' v' t' n' m' cap' oa' w f0 f1 f2 f3 f4 f5 f6 f8 f9 (Lib.hid HK)
  subst e0 e1 e2 e3 e4 e5 e6 e7 e8 e9
  rw [decide_eq_true rfl]
  exact same_10 k rk p to pl i v t n m cap oa k rk p to pl i v t n m' cap' oa' w f0 f1 f2 f3 f4 f5 f6 f8 f9 (Lib.hid HK)
end Go.Proofs.Ytjkiofgllmjkcaa.G
