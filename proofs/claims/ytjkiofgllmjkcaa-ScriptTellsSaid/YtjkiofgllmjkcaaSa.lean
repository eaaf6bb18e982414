/- The worlds of a reading: script.Decode; and what each step reads, in plain Lean. -/
import Derived.Test.YtjkiofgllmjkcaaS9
import Derived.Deep.AppendLies
namespace Go.Proofs.Ytjkiofgllmjkcaa.G
open Go.RowKit Go.Proofs.Ytjkiofgllmjkcaa.WordPlain
set_option linter.unusedVariables false
set_option linter.unusedSimpArgs false

def rows (acc : List Ac) (vks : List Value) : List Value := (acc.zip vks).flatMap fun p => (p.1.row p.2).toList
theorem row_len (a : Ac) (v : Value) : (a.row v).toList.length = 10 := rfl
theorem rows_snoc (acc : List Ac) (vks : List Value) (a : Ac) (v : Value) (h : vks.length = acc.length) : rows (acc ++ [a]) (vks ++ [v]) = rows acc vks ++ (a.row v).toList := by
  unfold rows
  rw [List.zip_append h.symm]
  simp
theorem rows_at : ∀ (acc : List Ac) (vks : List Value) (i j : Nat) (h : vks.length = acc.length) (hi : i < acc.length) (hj : j < 10), (rows acc vks)[i * 10 + j]? = (acc[i].row (vks[i]'(by omega))).toList[j]?
  | a :: acc, v :: vks, 0, j, h, hi, hj => by
    unfold rows
    rw [List.zip_cons_cons, List.flatMap_cons, Nat.zero_mul, Nat.zero_add, List.getElem?_append_left (by rw [row_len]; exact hj)]
    rfl
  | a :: acc, v :: vks, i + 1, j, h, hi, hj => by
    have ih := rows_at acc vks i j (by simpa using h) (by simpa using hi) hj
    unfold rows at ih ⊢
    rw [List.zip_cons_cons, List.flatMap_cons, List.getElem?_append_right (by rw [row_len]; omega), row_len]
    have e : (i + 1) * 10 + j - 10 = i * 10 + j := by omega
    rw [e, ih]
    rfl

theorem own_geS {w : World} {base : Nat} {e : TypeId} {size : Nat} {v : Value} {n : Nat} {xs : List Value} (h : w.ownsRow base e size v n xs) (k : Nat) (hk : some k = v.ownBlock) : base ≤ k ∧ k < w.heap.size := by
  rcases h.2 with ⟨rfl, _⟩ | ⟨b, cap, cur, rfl, hb, hh, _⟩
  · cases hk
  · cases hk; exact ⟨hb, lt_of_rowS hh⟩
theorem apartS {a b : Option Nat} (h : ∀ k, some k = a → some k ≠ b) : a = none ∨ a ≠ b := by
  cases a with
  | none => exact Or.inl rfl
  | some k => exact Or.inr (h k rfl)
theorem below_grownS {B : Nat} {w w' : World} {row : Option Nat} (h : w.grownBy w' row) (hr : ∀ k, some k = row → B ≤ k) (hB : B ≤ w.heap.size) : Below B w w' :=
  ⟨h.os, h.tape, h.output, h.size, fun i hi => h.block i (by omega) (fun e => by have := hr i e; omega)⟩
theorem grown_belowS {w w' : World} (h : Below w.heap.size w w') : w.grownBy w' none := ⟨h.os, h.tape, h.output, h.size, fun i hi _ => h.block i hi⟩
theorem grown_setS (w : World) (a : Addr) (u : Value) : w.grownBy (w.setCell a u) (some a.block) :=
  ⟨rfl, rfl, rfl, by simp, fun i _ hi => heap_setCell_other _ _ _ _ (fun e => hi (by rw [e]))⟩

/-- a list of truths that is owned -/
abbrev Ob (w wr : World) (v : Value) (l : List Bool) : Prop := wr.ownsRow (w.heap.size + 5) 4 1 v l.length (l.map Value.bool)
structure SI (w wr : World) (L : List UInt8) (lv : Value) (acc : List Ac) (vks : List Value) : Prop where
  a : wr.heap[w.heap.size]? = some (.cells #[.string ⟨L.toArray⟩] 9 (0, 0))
  b : wr.heap[w.heap.size + 1]? = some (.cells #[lv] 22 (0, 0))
  c : wr.heap[w.heap.size + 2]? = some (.cells #[.int .i64 0] 32 (0, 0))
  d : wr.heap[w.heap.size + 3]? = some (.cells #[takeF w.heap.size] 67 (0, 0))
  e : wr.heap[w.heap.size + 4]? = some (.cells #[numF (w.heap.size + 3)] 69 (0, 0))
  bel : Below w.heap.size w wr
  own : wr.ownsRow (w.heap.size + 5) 29 10 lv acc.length (rows acc vks)
  len : vks.length = acc.length
  keep : ∀ i (h : i < acc.length) (h' : i < vks.length), Ob w wr vks[i] acc[i].keep
  ne : ∀ i (h : i < vks.length) k, some k = (vks[i]).ownBlock → some k ≠ lv.ownBlock

/-- a block that no list owns -/
def Free (w : World) (lv : Value) (vks : List Value) (k : Nat) : Prop := w.heap.size + 5 ≤ k ∧ lv.ownBlock ≠ some k ∧ ∀ i (h : i < vks.length), (vks[i]).ownBlock ≠ some k
theorem SI.kept {w wr w' : World} {L : List UInt8} {lv : Value} {acc : List Ac} {vks : List Value} {row : Option Nat} (h : SI w wr L lv acc vks) (hg : wr.grownBy w' row) (hr : ∀ k, some k = row → Free w lv vks k) : SI w w' L lv acc vks := by
  have st : ∀ j, j < 5 → j + w.heap.size < wr.heap.size → w'.heap[j + w.heap.size]? = wr.heap[j + w.heap.size]? := fun j hj hl => hg.block _ hl (fun e => by have := (hr _ e).1; omega)
  refine ⟨?_, ?_, ?_, ?_, ?_, ?_, ?_, h.len, ?_, h.ne⟩
  · exact (hg.block _ (lt_of_rowS h.a) (fun e => by have := (hr _ e).1; omega)).trans h.a
  · exact (hg.block _ (lt_of_rowS h.b) (fun e => by have := (hr _ e).1; omega)).trans h.b
  · exact (hg.block _ (lt_of_rowS h.c) (fun e => by have := (hr _ e).1; omega)).trans h.c
  · exact (hg.block _ (lt_of_rowS h.d) (fun e => by have := (hr _ e).1; omega)).trans h.d
  · exact (hg.block _ (lt_of_rowS h.e) (fun e => by have := (hr _ e).1; omega)).trans h.e
  · exact h.bel.trans (below_grownS hg (fun k hk => by have := (hr _ hk).1; omega) h.bel.size)
  · exact h.own.kept hg (apartS (fun k hk e => (hr k e).2.1 (by rw [← hk])))
  · intro i h1 h2
    exact (h.keep i h1 h2).kept hg (apartS (fun k hk e => (hr k e).2.2 i h2 (by rw [← hk])))
theorem SI.mv {w wr w' : World} {L M : List UInt8} {lv : Value} {acc : List Ac} {vks : List Value} (h : SI w wr L lv acc vks) (hm : Mv w.heap.size M wr w') : SI w w' M lv acc vks := by
  have hg := hm.1
  refine ⟨hm.2, ?_, ?_, ?_, ?_, ?_, ?_, h.len, ?_, h.ne⟩
  · exact (hg.block _ (lt_of_rowS h.b) (fun e => by have := Option.some.inj e; omega)).trans h.b
  · exact (hg.block _ (lt_of_rowS h.c) (fun e => by have := Option.some.inj e; omega)).trans h.c
  · exact (hg.block _ (lt_of_rowS h.d) (fun e => by have := Option.some.inj e; omega)).trans h.d
  · exact (hg.block _ (lt_of_rowS h.e) (fun e => by have := Option.some.inj e; omega)).trans h.e
  · exact h.bel.trans (below_grownS hg (fun k hk => by have := Option.some.inj hk; omega) h.bel.size)
  · exact h.own.kept hg (apartS (fun k hk e => by have := (own_geS h.own k hk).1; have := Option.some.inj e; omega))
  · intro i h1 h2
    exact (h.keep i h1 h2).kept hg (apartS (fun k hk e => by have := (own_geS (h.keep i h1 h2) k hk).1; have := Option.some.inj e; omega))
theorem Ob.mv {w wr w' : World} {M : List UInt8} {v : Value} {l : List Bool} (h : Ob w wr v l) (hm : Mv w.heap.size M wr w') : Ob w w' v l :=
  World.ownsRow.kept h hm.1 (apartS (fun k hk e => by have := (own_geS h k hk).1; have := Option.some.inj e; omega))
/-- a block laid anew is free -/
theorem SI.fresh {w wr : World} {L : List UInt8} {lv : Value} {acc : List Ac} {vks : List Value} (h : SI w wr L lv acc vks) : Free w lv vks wr.heap.size :=
  ⟨by have := lt_of_rowS h.e; omega, fun e => by have := (own_geS h.own _ e.symm).2; omega, fun i hi e => by have := (own_geS (h.keep i (by rw [← h.len]; exact hi) hi) _ e.symm).2; omega⟩

theorem SI.push {w wr W1 w2 : World} {L : List UInt8} {lv : Value} {acc : List Ac} {vks : List Value} (h : SI w wr L lv acc vks) (hb : Below wr.heap.size wr W1) (a : Ac) (vk : Value) (hk : Ob w wr vk a.keep) (hne : ∀ k, some k = vk.ownBlock → some k ≠ lv.ownBlock) (b cap : Nat)
    (hown : w2.ownsRow (w.heap.size + 5) 29 10 (.slice (some ⟨b, 0, none⟩) (acc.length + 1) cap) (acc.length + 1) (rows acc vks ++ (a.row vk).toList)) (hg : W1.grownBy w2 lv.ownBlock) (hw : lv.ownBlock = some b ∨ b = W1.heap.size) :
    SI w (w2.setCell ⟨w.heap.size + 1, 0, none⟩ (.slice (some ⟨b, 0, none⟩) (acc.length + 1) cap)) L (.slice (some ⟨b, 0, none⟩) (acc.length + 1) cap) (acc ++ [a]) (vks ++ [vk]) := by
  have hsz := hb.size
  have hE := lt_of_rowS h.e
  have nC : ∀ k, k < w.heap.size + 5 → some k ≠ lv.ownBlock := fun k hk e => by have := (own_geS h.own k e).1; omega
  have bge : w.heap.size + 5 ≤ b := by
    rcases hw with hw | hw
    · exact (own_geS h.own b hw.symm).1
    · omega
  have st : ∀ k, k < w.heap.size + 5 → w2.heap[k]? = wr.heap[k]? := fun k hk => (hg.block _ (by omega) (nC _ hk)).trans (hb.block _ (by omega))
  have st2 : ∀ k, k < w.heap.size + 5 → k ≠ w.heap.size + 1 → (w2.setCell ⟨w.heap.size + 1, 0, none⟩ (.slice (some ⟨b, 0, none⟩) (acc.length + 1) cap)).heap[k]? = wr.heap[k]? := fun k hk hn => (heap_setCell_other _ _ _ _ (by exact hn)).trans (st k hk)
  have kp : ∀ (v : Value) (l : List Bool), Ob w wr v l → (∀ k, some k = v.ownBlock → some k ≠ lv.ownBlock) → Ob w (w2.setCell ⟨w.heap.size + 1, 0, none⟩ (.slice (some ⟨b, 0, none⟩) (acc.length + 1) cap)) v l := fun v l ho hn =>
    ((World.ownsRow.kept ho (grown_belowS hb) (apartS (by simp))).kept hg (apartS hn)).kept (grown_setS w2 ⟨w.heap.size + 1, 0, none⟩ _) (apartS (fun k hk e => by have := (own_geS ho k hk).1; have e2 : k = w.heap.size + 1 := Option.some.inj e; omega))
  have vb : ∀ (v : Value) (l : List Bool), Ob w wr v l → (∀ k, some k = v.ownBlock → some k ≠ lv.ownBlock) → ∀ k, some k = v.ownBlock → some k ≠ some b := fun v l ho hn k hk e => by
    rcases hw with hw | hw
    · exact hn k hk (by rw [hw]; exact e)
    · have := (own_geS ho k hk).2; have := Option.some.inj e; omega
  refine ⟨(st2 _ (by omega) (by omega)).trans h.a, ?_, (st2 _ (by omega) (by omega)).trans h.c, (st2 _ (by omega) (by omega)).trans h.d, (st2 _ (by omega) (by omega)).trans h.e, ?_, ?_, by rw [List.length_append, List.length_append, h.len]; rfl, ?_, ?_⟩
  · rw [heap_setCell_same _ _ _ _ _ _ ((st _ (by omega)).trans h.b)]; rfl
  · exact ((below_step h.bel hb).trans (below_grownS hg (fun k hk => by have := (own_geS h.own k hk).1; omega) (by have := h.bel.size; omega))).setCell (by show w.heap.size ≤ w.heap.size + 1; omega) _
  · rw [rows_snoc _ _ _ _ h.len, List.length_append]
    exact hown.kept (grown_setS w2 ⟨w.heap.size + 1, 0, none⟩ _) (Or.inr (by show some b ≠ some (w.heap.size + 1); intro e; have := Option.some.inj e; omega))
  · intro i h1 h2
    by_cases hi : i < acc.length
    · rw [List.getElem_append_left (by rw [h.len]; exact hi), List.getElem_append_left hi]
      exact kp _ _ (h.keep i hi (by rw [h.len]; exact hi)) (h.ne i (by rw [h.len]; exact hi))
    · have e1 : (vks ++ [vk])[i] = vk := by rw [List.getElem_append_right (by rw [h.len]; omega)]; simp
      have e2 : (acc ++ [a])[i] = a := by rw [List.getElem_append_right (by omega)]; simp
      rw [e1, e2]
      exact kp _ _ hk hne
  · intro i h1 k hk e
    by_cases hi : i < vks.length
    · rw [List.getElem_append_left hi] at hk
      exact vb _ _ (h.keep i (by rw [← h.len]; exact hi) hi) (h.ne i hi) k hk e
    · rw [List.getElem_append_right (by omega)] at hk
      simp at hk
      exact vb _ _ ‹Ob w wr vk a.keep› hne k hk e
/-- a list of truths that is owned is one in memory -/
theorem Sb.of_own {w wr : World} {v : Value} {l : List Bool} (h : Ob w wr v l) : Sb wr v l := by
  rcases h.2 with ⟨rfl, h0⟩ | ⟨b, cap, cur, rfl, _, hh, hc, _, hs, ht⟩
  · exact Or.inl ⟨List.length_eq_zero_iff.1 h0, none, 0, rfl, fun _ => rfl⟩
  · by_cases h0 : l = []
    · subst h0
      exact Or.inl ⟨rfl, _, cap, rfl, by simp⟩
    · refine Or.inr ⟨h0, b, 0, cap, rfl, hc, fun i hi => ?_⟩
      rw [Nat.zero_add, cell_of_row _ _ i _ _ _ hh]
      have e1 : (cur.toList.take (l.length * 1))[i]? = some (Value.bool l[i]) := by rw [ht]; simp [hi]
      rw [List.getElem?_take_of_lt (by omega)] at e1
      simpa using e1
theorem SA.of_parts {w wr : World} {lv : Value} {acc : List Ac} {vks : List Value} (hown : wr.ownsRow (w.heap.size + 5) 29 10 lv acc.length (rows acc vks)) (hlen : vks.length = acc.length) (hkeep : ∀ i (h : i < acc.length) (h' : i < vks.length), Ob w wr vks[i] acc[i].keep) : SA wr lv acc := by
  rcases hown.2 with ⟨e, h0⟩ | ⟨b, cap, cur, e, _, hh, hc, _, hs, ht⟩
  · exact Or.inl ⟨List.length_eq_zero_iff.1 h0, none, 0, e⟩
  · by_cases h0 : acc = []
    · subst h0
      exact Or.inl ⟨rfl, _, cap, e⟩
    · refine Or.inr ⟨h0, b, 0, cap, e, hc, fun i hi => ⟨vks[i]'(by rw [hlen]; exact hi), Sb.of_own (hkeep i hi (by rw [hlen]; exact hi)), ?_⟩⟩
      have f : ∀ j, j < 10 → wr.cell? ⟨b, 0 + i * 10 + j, none⟩ = (acc[i].row (vks[i]'(by rw [hlen]; exact hi))).toList[j]? := fun j hj => by
        rw [Nat.zero_add, cell_of_row _ _ _ _ _ _ hh, ← rows_at acc vks i j hlen hi hj, ← ht]
        rw [List.getElem?_take_of_lt (by omega)]
        simp
      exact ⟨f 0 (by omega), f 1 (by omega), f 2 (by omega), f 3 (by omega), f 4 (by omega), f 5 (by omega), f 6 (by omega), f 7 (by omega), f 8 (by omega), f 9 (by omega)⟩

theorem SA.of_SI {w wr : World} {L : List UInt8} {lv : Value} {acc : List Ac} {vks : List Value} (h : SI w wr L lv acc vks) : SA wr lv acc := SA.of_parts h.own h.len h.keep
/-- the named results are stored once more -/
theorem SI.ended {w wr : World} {L : List UInt8} {lv u v : Value} {o : Obj} {acc : List Ac} {vks : List Value} (h : SI w wr L lv acc vks) : SA (((wr.setCell ⟨w.heap.size + 1, 0, none⟩ u).setCell ⟨w.heap.size + 2, 0, none⟩ v).alloc o) lv acc := by
  refine SA.of_parts (w := w) (vks := vks) ?_ h.len (fun i h1 h2 => ?_)
  · refine ((h.own.kept (grown_setS wr ⟨w.heap.size + 1, 0, none⟩ u) (apartS (fun k hk e => ?_))).kept (grown_setS _ ⟨w.heap.size + 2, 0, none⟩ v) (apartS (fun k hk e => ?_))).alloc o
    · have := (own_geS h.own k hk).1; have e2 : k = w.heap.size + 1 := Option.some.inj e; omega
    · have := (own_geS h.own k hk).1; have e2 : k = w.heap.size + 2 := Option.some.inj e; omega
  · have ho := h.keep i h1 h2
    refine ((World.ownsRow.kept ho (grown_setS wr ⟨w.heap.size + 1, 0, none⟩ u) (apartS (fun k hk e => ?_))).kept (grown_setS _ ⟨w.heap.size + 2, 0, none⟩ v) (apartS (fun k hk e => ?_))).alloc o
    · have := (own_geS ho k hk).1; have e2 : k = w.heap.size + 1 := Option.some.inj e; omega
    · have := (own_geS ho k hk).1; have e2 : k = w.heap.size + 2 := Option.some.inj e; omega

/-! what is read, step by step -/
def Rd (S : List UInt8) (acc : List Ac) (L : List UInt8) : Prop := L.length ≤ S.length ∧ ∃ f, L.length ≤ f ∧ rdAll S.length S = (match rdAll f L with | .ok l => .ok (acc ++ l) | .error e => .error e)
theorem Rd.start (S : List UInt8) : Rd S [] S := ⟨Nat.le_refl _, S.length, Nat.le_refl _, by cases rdAll S.length S <;> rfl⟩
theorem Rd.ok {S : List UInt8} {acc : List Ac} {L R : List UInt8} {a : Ac} (h : Rd S acc L) (hL : L ≠ []) (h1 : rdOne L = .ok (a, R)) (hR : R.length < L.length) : Rd S (acc ++ [a]) R := by
  obtain ⟨h0, f, hf, e⟩ := h
  obtain ⟨c, M, rfl⟩ := List.exists_cons_of_ne_nil hL
  refine ⟨by omega, f - 1, by omega, ?_⟩
  obtain ⟨g, rfl⟩ : ∃ g, f = g + 1 := ⟨f - 1, by simp at hf; omega⟩
  rw [e]
  simp only [rdAll, h1, Nat.add_sub_cancel]
  cases rdAll g R <;> simp
theorem Rd.bad {S : List UInt8} {acc : List Ac} {L : List UInt8} {x : Int} (h : Rd S acc L) (hL : L ≠ []) (h1 : rdOne L = .error x) : decA ⟨S.toArray⟩ = [] ∧ decX ⟨S.toArray⟩ = x := by
  obtain ⟨h0, f, hf, e⟩ := h
  obtain ⟨c, M, rfl⟩ := List.exists_cons_of_ne_nil hL
  obtain ⟨g, rfl⟩ : ∃ g, f = g + 1 := ⟨f - 1, by simp at hf; omega⟩
  unfold decA decX
  simp only [rdAll, h1] at e
  rw [e]
  exact ⟨rfl, rfl⟩
theorem Rd.done {S : List UInt8} {acc : List Ac} (h : Rd S acc []) : decA ⟨S.toArray⟩ = acc ∧ decX ⟨S.toArray⟩ = 0 := by
  obtain ⟨h0, f, hf, e⟩ := h
  unfold decA decX
  have e2 : rdAll f [] = .ok [] := by cases f <;> rfl
  rw [e2] at e
  rw [e]
  exact ⟨by simp, rfl⟩

theorem SI.form {w wr : World} {L : List UInt8} {lv : Value} {acc : List Ac} {vks : List Value} (h : SI w wr L lv acc vks) : ∃ oa cap, lv = .slice oa acc.length cap := by
  rcases h.own.2 with ⟨e, h0⟩ | ⟨b, cap, cur, e, _⟩
  · exact ⟨none, 0, by rw [e, h0]⟩
  · exact ⟨_, cap, e⟩
theorem rd_ok (n : Nat) (L : List UInt8) (h : n ≤ L.length) : rdNum n L = .ok (wgl (L.take n), L.drop n) := by unfold rdNum; rw [if_pos h]
theorem rd_bad (n : Nat) (L : List UInt8) (h : L.length < n) : rdNum n L = .error 6 := by unfold rdNum; rw [if_neg (by omega)]
theorem wgl_take_lt (n : Nat) (L : List UInt8) (h : n ≤ L.length) : wgl (L.take n) < 256 ^ n := by
  have := wgl_lt (L.take n)
  rw [List.length_take, Nat.min_eq_left h] at this
  exact this
/-- a number is read, or there are too few bytes -/
theorem SI.num {w wr : World} {L : List UInt8} {lv : Value} {acc : List Ac} {vks : List Value} (h : SI w wr L lv acc vks) (n : Nat) (h8 : n ≤ 8) (hb : L.length ≤ 140737488351232) :
    (∃ x M, rdNum n L = .ok (x, M) ∧ x < 256 ^ n ∧ M.length + n = L.length ∧ Calls Try.prog 29 #[.int .i64 (n : Nat), .pointer (some ⟨w.heap.size + 3, 0, none⟩)] wr fun e w' => e = .returned (.int .u64 (x : Nat)) ∧ Mv w.heap.size M wr w') ∨
    (rdNum n L = .error 6 ∧ Calls Try.prog 29 #[.int .i64 (n : Nat), .pointer (some ⟨w.heap.size + 3, 0, none⟩)] wr fun e w' => e = .panicked [{ v := wrongS 6, recovered := false }] ∧ wr = w') := by
  by_cases hn : n ≤ L.length
  · exact Or.inl ⟨_, _, rd_ok n L hn, wgl_take_lt n L hn, by rw [List.length_drop]; omega, num_ok _ _ n L wr h.a h.d hn h8 hb⟩
  · exact Or.inr ⟨rd_bad n L (by omega), num_bad _ _ n L wr h.a h.d (by omega)⟩
/-- a text is read, or there are too few bytes -/
theorem SI.text {w wr : World} {L : List UInt8} {lv : Value} {acc : List Ac} {vks : List Value} (h : SI w wr L lv acc vks) (hb : L.length ≤ 140737488351232) :
    (∃ s M, rdText L = .ok (s, M) ∧ s.size ≤ 255 ∧ M.length + s.size + 1 = L.length ∧ Calls Try.prog 31 #[.pointer (some ⟨w.heap.size + 3, 0, none⟩), .pointer (some ⟨w.heap.size + 4, 0, none⟩)] wr fun e w' => e = .returned (.string s) ∧ Mv w.heap.size M wr w') ∨
    (rdText L = .error 6 ∧ Calls Try.prog 31 #[.pointer (some ⟨w.heap.size + 3, 0, none⟩), .pointer (some ⟨w.heap.size + 4, 0, none⟩)] wr fun e w' => e = .panicked [{ v := wrongS 6, recovered := false }] ∧ wr.grownBy w' (some w.heap.size)) := by
  by_cases hn : 1 ≤ L.length
  · have hc := wgl_take_lt 1 L hn
    have hl : (L.drop 1).length + 1 = L.length := by rw [List.length_drop]; omega
    obtain ⟨c, hcc⟩ : ∃ c, c = wgl (L.take 1) := ⟨_, rfl⟩
    obtain ⟨M, hM⟩ : ∃ M, M = L.drop 1 := ⟨_, rfl⟩
    have hr : rdNum 1 L = .ok (c, M) := by rw [hcc, hM]; exact rd_ok 1 L hn
    rw [← hcc] at hc
    rw [← hM] at hl
    by_cases h2 : c ≤ M.length
    · refine Or.inl ⟨⟨(M.take c).toArray⟩, M.drop c, ?_, ?_, ?_, text_ok _ _ _ L wr h.a h.d h.e (by omega) (by omega) hb c M hn hcc hM (by omega) h2⟩
      · unfold rdText; rw [hr]; simp only [rdTake, if_pos h2]
      · show (M.take c).length ≤ 255; rw [List.length_take]; omega
      · show (M.drop c).length + (M.take c).length + 1 = L.length; rw [List.length_take, List.length_drop]; omega
    · refine Or.inr ⟨?_, text_bad2 _ _ _ L wr h.a h.d h.e (by omega) (by omega) hb c M hn hcc hM (by omega) (by omega)⟩
      unfold rdText; rw [hr]; simp only [rdTake, if_neg h2]
  · refine Or.inr ⟨?_, text_bad1 _ _ _ L wr h.a h.d h.e (by omega) (by omega) hb (by omega)⟩
    unfold rdText; rw [rd_bad 1 L (by omega)]
/-- what stands ahead of a failure -/
theorem SI.ends {w wr w' : World} {L : List UInt8} {lv : Value} {acc : List Ac} {vks : List Value} (h : SI w wr L lv acc vks) (hg : wr.grownBy w' (some w.heap.size)) :
    w'.heap[w.heap.size + 1]? = some (.cells #[lv] 22 (0, 0)) ∧ w'.heap[w.heap.size + 2]? = some (.cells #[.int .i64 0] 32 (0, 0)) ∧ Below w.heap.size w w' :=
  ⟨(hg.block _ (lt_of_rowS h.b) (fun e => by have := Option.some.inj e; omega)).trans h.b, (hg.block _ (lt_of_rowS h.c) (fun e => by have := Option.some.inj e; omega)).trans h.c,
    h.bel.trans (below_grownS hg (fun k hk => by have := Option.some.inj hk; omega) h.bel.size)⟩
theorem act_info : ∃ i z, Try.prog.info? 29 = some i ∧ i.zero = some z ∧ i.size = 10 ∧ i.bytes = 112 ∧ z.cells.size = 10 := by
  have h : (Try.prog.info? 29).map (fun i => (i.zero.map (·.cells.size), i.size, i.bytes)) = some (some 10, 10, 112) := by kernel_rfl
  cases hq : Try.prog.info? 29 with
  | none => rw [hq] at h; cases h
  | some i =>
    rw [hq] at h; simp at h
    obtain ⟨⟨z, hz, hz2⟩, h3, h4⟩ := h
    exact ⟨i, z, rfl, hz, h3, h4, hz2⟩
theorem bool_info : ∃ i, Try.prog.info? 4 = some i ∧ i.zero = some (.bool false) ∧ i.size = 1 ∧ i.bytes = 1 := by
  have h : (Try.prog.info? 4).map (fun i => (i.zero, i.size, i.bytes)) = some (some (.bool false), 1, 1) := by kernel_rfl
  cases hq : Try.prog.info? 4 with
  | none => rw [hq] at h; cases h
  | some i => rw [hq] at h; simp at h; exact ⟨i, rfl, h.1, h.2.1, h.2.2⟩
end Go.Proofs.Ytjkiofgllmjkcaa.G
