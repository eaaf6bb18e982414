/- Regions that draw their order and end in stores, the operations ahead of which are quiet: one cheap walk of these (the frame written out), then the rest as it must come. -/
import Derived.Test.YthpompgcnemanaaGTail
import Derived.Test.YthpompgcnemanaaGFast
import Derived.BigQuiet
namespace Go.Proofs.Ythpompgcnemanaa.Loose
open Go.RowKit
set_option linter.unusedVariables false
set_option linter.unusedSimpArgs false
section
variable {P : Program} {ops : Array Oper} {md : Region.Mode} {C : World → Prop} {Q : Exit → Act → World → Prop}

def wpAnyQT (P : Program) (md : Region.Mode) (ops : Array Oper) (C : World → Prop) (Fin : Array Bool → Act → Prop) : Nat → Array Bool → Act → Prop
  | 0, listed, a => Fin listed a
  | fuel + 1, listed, a => Region.ready md ops listed ≠ [] ∧ ∀ i ∈ Region.ready md ops listed, qOp P ops C i (wpAnyQT P md ops C Fin fuel (listed.setIfInBounds i true)) a
def finQ (P : Program) (md : Region.Mode) (ops : Array Oper) (C : World → Prop) (Q : Exit → Act → World → Prop) (m : Nat) : Array Bool → Act → Prop := fun listed a => ∀ w, C w → wpAny P md ops Q m listed a w
theorem wpAny_of_QT (m : Nat) : ∀ (fuel : Nat) (listed : Array Bool) (a : Act) (w : World), C w → wpAnyQT P md ops C (finQ P md ops C Q m) fuel listed a → wpAny P md ops Q (m + fuel) listed a w
  | 0, _, _, w, hC, h => h w hC
  | fuel + 1, listed, a, w, hC, h => ⟨fun h0 => absurd h0 h.1, fun i hi => wpOp_of_qOp hC (fun a' w' hC' hk => wpAny_of_QT m fuel _ a' w' hC' hk) (h.2 i hi)⟩

theorem wpAnyQT_first {Fin : Array Bool → Act → Prop} {s0 : Nat} {ord : List Nat} (hch : chainB md ops s0 ord = true) (hre : restB md ops ord s0 = true)
    {i : Nat} {oi : Oper} {v : Value} (hi : ops[i]? = some oi) (hsel : ∀ (j : Nat) (o : Oper) cs b, ops[j]? = some o → o.op ≠ .select cs b) :
    ∀ (fuel : Nat) (listed : Array Bool) (a : Act) (rem : List Nat), rem.length = fuel + 1 → rem.Nodup → (∀ j, j ∈ rem ↔ j ∈ ord ∧ listed.getD j false = false) → Closed md ops listed → (∀ t, t ∉ ord → listed.getD t false = false) → i ∈ rem →
      (∀ j oj, ops[j]? = some oj → j ≠ i → listed.getD j true = false → (∀ e ∈ oj.after, Region.binds md e = true → e.on ≠ i) → oi.apart ops oj = true) →
      i ∈ Region.ready md ops listed → YieldsIn P ops C oi v a →
      wpAnyQT P md ops C Fin fuel (listed.setIfInBounds i true) (a.put oi.dst v) → wpAnyQT P md ops C Fin (fuel + 1) listed a := by
  intro fuel
  induction fuel with
  | zero =>
    intro listed a rem hlen hnd hmem hc hu hir _ hr hy H
    refine ⟨fun h => (by rw [h] at hr; cases hr), fun j hj => ?_⟩
    have hjr : j ∈ rem := (hmem j).2 ⟨ready_ord hc hu hch hre ((hmem i).1 hir).1 ((hmem i).1 hir).2 hj, getD_tf (mem_ready.1 hj).1⟩
    have hji : j = i := by
      obtain ⟨x, hx⟩ := List.length_eq_one_iff.1 hlen
      rw [hx] at hjr hir
      rw [List.mem_singleton.1 hjr, List.mem_singleton.1 hir]
    subst hji
    exact hy.qOp hi H
  | succ fuel ih =>
    intro listed a rem hlen hnd hmem hc hu hir hfree hr hy H
    refine ⟨fun h => (by rw [h] at hr; cases hr), fun j hj => ?_⟩
    by_cases hji : j = i
    · subst hji
      exact hy.qOp hi H
    · have hjo : j ∈ ord := ready_ord hc hu hch hre ((hmem i).1 hir).1 ((hmem i).1 hir).2 hj
      have hjr : j ∈ rem := (hmem j).2 ⟨hjo, getD_tf (mem_ready.1 hj).1⟩
      have h1 := H.2 j (ready_mono hj hji)
      obtain ⟨hjun, oj, hoj, hall⟩ := mem_ready.1 hj
      have hnot : ∀ e ∈ oj.after, Region.binds md e = true → e.on ≠ i := fun e he hb heq => by
        have h1 := hall e he hb
        have h0 := (mem_ready.1 hr).1
        rw [heq] at h1
        rcases Nat.lt_or_ge i listed.size with h' | h'
        · simp [h'] at h0 h1; rw [h0] at h1; cases h1
        · simp [Array.getElem?_eq_none h'] at h1
      have h2 := qOp_put hoj (hfree j oj hoj hji hjun hnot) (fun cs b => hsel i oi cs b hi) (fun cs b => hsel j oj cs b hoj) hy h1
      have hfree' : ∀ k ok, ops[k]? = some ok → k ≠ i → (listed.setIfInBounds j true).getD k true = false →
          (∀ e ∈ ok.after, Region.binds md e = true → e.on ≠ i) → oi.apart ops ok = true := fun k ok hk hki hun hno => by
        refine hfree k ok hk hki ?_ hno
        by_cases hjk : j = k
        · subst hjk; exact hjun
        · rw [getD_set_ne true hjk] at hun; exact hun
      refine qOp_mono (fun a' h3 => ih (listed.setIfInBounds j true) a' (rem.erase j) ?_ (hnd.erase j) ?_ (closed_step hc hj) ?_ ?_ hfree' (ready_mono hr (Ne.symm hji)) h3.1 ?_) h2
      · rw [List.length_erase_of_mem hjr]; omega
      · intro k
        rw [hnd.mem_erase_iff, hmem k]
        by_cases hjk : j = k
        · subst hjk
          have hlt := getD_unlisted hjun
          simp [hlt]
        · rw [getD_set_ne false hjk]
          constructor
          · exact fun h => h.2
          · exact fun h => ⟨fun e => hjk e.symm, h⟩
      · intro t ht
        have hjt : j ≠ t := fun e => ht (e ▸ hjo)
        rw [getD_set_ne false hjt]; exact hu t ht
      · exact (hnd.mem_erase_iff).2 ⟨Ne.symm hji, hir⟩
      · rw [Array.setIfInBounds_comm _ _ hji]
        exact h3.2

theorem wpAnyQT_ord {Fin : Array Bool → Act → Prop} {s0 : Nat} {ord : List Nat} (hs : Region.noSelect ops = true) (hch : chainB md ops s0 ord = true) (hre : restB md ops ord s0 = true) : ∀ (l : List Nat) (os : List Oper) (listed : Array Bool) (a : Act),
    l.length = os.length → (∀ (j i : Nat) (o : Oper), l[j]? = some i → os[j]? = some o → ops[i]? = some o) →
    l.Nodup → (∀ j, j ∈ l ↔ j ∈ ord ∧ listed.getD j false = false) → Closed md ops listed → (∀ t, t ∉ ord → listed.getD t false = false) → ordFrom md ops l listed = true →
    wpQuiet P ops C (Fin (l.foldl (fun s i => s.setIfInBounds i true) listed)) os a → wpAnyQT P md ops C Fin l.length listed a
  | [], [], _, _, _, _, _, _, _, _, _, h => h
  | [], _ :: _, _, _, hl, _, _, _, _, _, _, _ => by cases hl
  | _ :: _, [], _, _, hl, _, _, _, _, _, _, _ => by cases hl
  | i :: l, o :: os, listed, a, hl, hz, hnd, hmem, hc, hu, hB, h => by
    have ho : ops[i]? = some o := hz 0 i o rfl rfl
    have hst : qOp P ops C i (wpQuiet P ops C (Fin ((i :: l).foldl (fun s i => s.setIfInBounds i true) listed)) os) a := by unfold qOp; simp only [ho]; exact h
    obtain ⟨v, hy, hK⟩ := yieldsIn_of_qOp ho hst
    simp only [ordFrom, Bool.and_eq_true] at hB
    obtain ⟨⟨hr, hf⟩, hB'⟩ := hB
    have hr' : i ∈ Region.ready md ops listed := by simpa using hr
    have hio := ((hmem i).1 List.mem_cons_self).1
    refine wpAnyQT_first hch hre ho (Region.noSelect_spec hs) l.length listed a (i :: l) rfl hnd hmem hc hu List.mem_cons_self (Region.free_spec ho hf) hr' hy ?_
    refine wpAnyQT_ord hs hch hre l os _ _ (by simpa using hl) (fun j x y hx hy => hz (j + 1) x y (by simpa using hx) (by simpa using hy)) (List.nodup_cons.1 hnd).2 ?_ (closed_step hc hr') ?_ hB' hK
    · intro k
      by_cases hik : i = k
      · subst hik
        have hlt := getD_unlisted (mem_ready.1 hr').1
        simp [hlt, (List.nodup_cons.1 hnd).1]
      · rw [getD_set_ne false hik, ← hmem k]
        constructor
        · exact fun h => List.mem_cons_of_mem _ h
        · intro h
          rcases List.mem_cons.1 h with h | h
          · exact absurd h.symm hik
          · exact h
    · intro t ht
      have hjt : i ≠ t := fun e => ht (e ▸ hio)
      rw [getD_set_ne false hjt]; exact hu t ht

theorem finQ_nil {m : Nat} {listed : Array Bool} {a : Act} (h : ∀ w, C w → wpAny P md ops Q m listed a w) : wpQuiet P ops C (finQ P md ops C Q m listed) [] a := h
/-- THE REGION: its first n operations are quiet; the rest, of which operation n is the first, comes as it must. -/
theorem wp_region_qtail {id : Nat} {a : Act} {w : World} {l : List Oper} (n m : Nat) (hm : P.follows .mixedOrders = true) (hB : tailB .any l.toArray (List.range n) n = true) (hlen : (m + n == l.length) = true)
    (h : wpQuiet P l.toArray (fun w' => ∃ p : Regrown, w' = Sort.grow (redrawn w p.d) p.os) (finQ P .any l.toArray (fun w' => ∃ p : Regrown, w' = Sort.grow (redrawn w p.d) p.os) Q m ((List.range n).foldl (fun s i => s.setIfInBounds i true) (Array.replicate l.toArray.size false))) (l.take n) a) : (Code.region id l.toArray true).wp P Q a w := by
  simp only [tailB, Bool.and_eq_true, Bool.not_eq_true'] at hB
  obtain ⟨⟨⟨⟨⟨h1, h2⟩, h3⟩, h4⟩, h5⟩, h6⟩ := hB
  have hln : m + n = l.length := by simpa using hlen
  refine wp_region_any hm ?_
  have hz : ∀ t, (Array.replicate l.toArray.size false).getD t false = false := by intro t; simp [Array.getElem?_replicate]; split <;> rfl
  have g1 := wpAnyQT_ord (P := P) (md := .any) (C := fun w' => ∃ p : Regrown, w' = Sort.grow (redrawn w p.d) p.os) (Fin := finQ P .any l.toArray (fun w' => ∃ p : Regrown, w' = Sort.grow (redrawn w p.d) p.os) Q m) h1 h2 h3 (List.range n) (l.take n) (Array.replicate l.toArray.size false) a
    (by rw [List.length_range, List.length_take]; omega)
    (fun j i o hi ho => by
      have hj : j < n := by
        rcases Nat.lt_or_ge j n with h | h
        · exact h
        · rw [List.getElem?_eq_none (by simpa using h)] at hi; cases hi
      rw [List.getElem?_range hj] at hi
      cases hi
      rw [List.getElem?_take_of_lt hj] at ho
      rw [List.getElem?_toArray]; exact ho)
    (distinctB_nodup _ h4) (fun j => ⟨fun hj => ⟨hj, hz j⟩, fun hj => hj.1⟩) (fun j o _ hj => by rw [hz j] at hj; cases hj) (fun t _ => hz t) h6 h
  have g2 := wpAny_of_QT (P := P) (Q := Q) m _ _ _ { w with drawn := w.drawn + 1 } ⟨⟨w.drawn + 1, #[]⟩, by rw [Sort.grow_empty]; rfl⟩ g1
  rw [List.length_range, hln] at g2
  simpa using g2
end
end Go.Proofs.Ythpompgcnemanaa.Loose
