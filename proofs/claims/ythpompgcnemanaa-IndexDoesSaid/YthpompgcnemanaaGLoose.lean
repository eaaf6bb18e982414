/- Regions that draw their order, whose operations lay new blocks and hand on what lies in them: one walk of the lexical order, each slot told by a law of its own. -/
import Derived.Deep.QuietTactic
import Derived.Below
namespace Go.Proofs.Ythpompgcnemanaa.Loose
open Go.RowKit
set_option linter.unusedVariables false
set_option linter.unusedSimpArgs false

abbrev Env := Nat → Value
abbrev Know := (Nat → Bool) → Env → World → Prop
section
variable {P : Program} {ops : Array Oper} {md : Region.Mode} {w0 : World} {Q : Exit → Act → World → Prop}

/-- what an operation yields, and where it leaves the world -/
def lUpon (P : Program) (w : World) (V : Value → World → Prop) : Result Next → Prop
  | .ok (.value u) w' => Below w.heap.size w w' ∧ V u w'
  | .ok .skip w' => Below w.heap.size w w' ∧ V undef w'
  | .ok (.enter f args) w' => w' = w ∧ Calls P f args w (fun e w'' => ∃ u, e = .returned u ∧ Below w.heap.size w w'' ∧ V u w'')
  | _ => False
def lStep (P : Program) (ops : Array Oper) (o : Oper) (a : Act) (w : World) (V : Value → World → Prop) : Prop :=
  if Region.wanted o (yielded ops a.tmps) then lUpon P w V ((execOp a.eval o).run P w) else V undef w
def Stab (V : Value → World → Prop) : Prop := ∀ v w w', V v w → Below w.heap.size w w' → V v w'
def depOn (md : Region.Mode) (o : Oper) (j : Nat) : Bool := o.after.any fun e => Region.binds md e && e.on == j
def Know.add (K : Know) (i : Nat) (V : Value → World → Prop) : Know := fun D vs w => K D vs w ∧ (D i = true → V (vs i) w)
def lOp (P : Program) (md : Region.Mode) (ops : Array Oper) (w0 : World) (i : Nat) (K : Know) (F : Env → Act) (next : Know → (Env → Act) → Prop) : Prop :=
  match ops[i]? with
  | none => next K F
  | some o => ∃ V, Stab V ∧ (∀ vs w, Below w0.heap.size w0 w → K (depOn md o) vs w → lStep P ops o (F vs) w V) ∧ next (K.add i V) (fun vs => (F vs).put o.dst (vs i))
def lFin (w0 : World) (Q : Exit → Act → World → Prop) (K : Know) (F : Env → Act) : Prop := ∀ vs w, Below w0.heap.size w0 w → K (fun _ => true) vs w → Q .normal (F vs) w
def wpAnyL (P : Program) (md : Region.Mode) (ops : Array Oper) (w0 : World) (Q : Exit → Act → World → Prop) : Nat → Array Bool → Know → (Env → Act) → Prop
  | 0, listed, K, F => Region.ready md ops listed = [] ∧ lFin w0 Q K F
  | fuel + 1, listed, K, F => (Region.ready md ops listed = [] → lFin w0 Q K F) ∧
    ∀ i ∈ Region.ready md ops listed, lOp P md ops w0 i K F (wpAnyL P md ops w0 Q fuel (listed.setIfInBounds i true))
def wpL (P : Program) (md : Region.Mode) (ops : Array Oper) (w0 : World) (Q : Exit → Act → World → Prop) : List Oper → Nat → Know → (Env → Act) → Prop
  | [], _, K, F => lFin w0 Q K F
  | o :: rest, k, K, F => ∃ V, Stab V ∧ (∀ vs w, Below w0.heap.size w0 w → K (depOn md o) vs w → lStep P ops o (F vs) w V) ∧ wpL P md ops w0 Q rest (k + 1) (K.add k V) (fun vs => (F vs).put o.dst (vs k))

/-- what holds of the knowledge and the frame on the way -/
structure Inv (listed : Array Bool) (K : Know) (F : Env → Act) : Prop where
  mono : ∀ (D D' : Nat → Bool) vs w, (∀ j, D j = true → D' j = true) → K D' vs w → K D vs w
  stab : ∀ D vs w w', K D vs w → Below w.heap.size w w' → K D vs w'
  locK : ∀ D vs vs' w, (∀ j, listed.getD j true = true → vs j = vs' j) → K D vs w → K D vs' w
  locF : ∀ vs vs', (∀ j, listed.getD j true = true → vs j = vs' j) → F vs = F vs'

theorem Inv.add {listed : Array Bool} {K : Know} {F : Env → Act} (h : Inv listed K F) (i : Nat) (hi : i < listed.size) {V : Value → World → Prop} (hV : Stab V) (d : Option Tmp) : Inv (listed.setIfInBounds i true) (K.add i V) (fun vs => (F vs).put d (vs i)) := by
  have key : ∀ j, listed.getD j true = true → (listed.setIfInBounds i true).getD j true = true := by
    intro j hj
    by_cases e : i = j
    · subst e; simp [hi]
    · rw [getD_set_ne true e]; exact hj
  have self : (listed.setIfInBounds i true).getD i true = true := by simp [hi]
  refine ⟨?_, ?_, ?_, ?_⟩
  · exact fun D D' vs w hD ⟨h1, h2⟩ => ⟨h.mono D D' vs w hD h1, fun hd => h2 (hD i hd)⟩
  · exact fun D vs w w' ⟨h1, h2⟩ hb => ⟨h.stab D vs w w' h1 hb, fun hd => hV _ _ _ (h2 hd) hb⟩
  · exact fun D vs vs' w he ⟨h1, h2⟩ => ⟨h.locK D vs vs' w (fun j hj => he j (key j hj)) h1, fun hd => by rw [← he i self]; exact h2 hd⟩
  · intro vs vs' he
    show (F vs).put d (vs i) = (F vs').put d (vs' i)
    rw [h.locF vs vs' (fun j hj => he j (key j hj)), he i self]

theorem getD_unlisted {listed : Array Bool} {i : Nat} (h : listed.getD i true = false) : i < listed.size := by
  rcases Nat.lt_or_ge i listed.size with h' | h'
  · exact h'
  · simp [Array.getElem?_eq_none h'] at h

theorem below_trans {a b c : World} (h : Below a.heap.size a b) (k : Below b.heap.size b c) : Below a.heap.size a c :=
  h.trans ⟨k.os, k.tape, k.output, k.size, fun i hi => k.block i (Nat.lt_of_lt_of_le hi h.size)⟩

theorem wpAny_of_L : ∀ (fuel : Nat) (listed : Array Bool) (K : Know) (F : Env → Act) (vs : Env) (w : World), Inv listed K F → Below w0.heap.size w0 w → K (fun _ => true) vs w →
    wpAnyL P md ops w0 Q fuel listed K F → wpAny P md ops Q fuel listed (F vs) w
  | 0, _, _, _, vs, w, _, hC, hK, h => ⟨h.1, h.2 vs w hC hK⟩
  | fuel + 1, listed, K, F, vs, w, hI, hC, hK, h => by
    refine ⟨fun h0 => h.1 h0 vs w hC hK, fun i hi => ?_⟩
    have h2 := h.2 i hi
    obtain ⟨hun, o, ho, _⟩ := mem_ready.1 hi
    have hlt := getD_unlisted hun
    unfold lOp at h2
    unfold wpOp
    simp only [ho] at h2 ⊢
    obtain ⟨V, hV, hs, hn⟩ := h2
    have hst := hs vs w hC (hI.mono _ _ vs w (fun _ _ => rfl) hK)
    have go : ∀ u w', Below w.heap.size w w' → V u w' → wpAny P md ops Q fuel (listed.setIfInBounds i true) ((F vs).put o.dst u) w' := by
      intro u w' hb hv
      have hag : ∀ j, listed.getD j true = true → vs j = (fun j => if j = i then u else vs j) j := by
        intro j hj
        by_cases e : j = i
        · subst e; rw [hun] at hj; cases hj
        · simp [e]
      have e1 : (F vs).put o.dst u = (fun vs => (F vs).put o.dst (vs i)) (fun j => if j = i then u else vs j) := by
        show _ = (F (fun j => if j = i then u else vs j)).put o.dst (if i = i then u else vs i)
        rw [← hI.locF vs _ hag, if_pos rfl]
      rw [e1]
      refine wpAny_of_L fuel _ (K.add i V) _ _ w' (hI.add i hlt hV o.dst) (below_trans hC hb) ⟨hI.locK _ vs _ w' hag (hI.stab _ vs w w' hK hb), fun _ => ?_⟩ hn
      show V (if i = i then u else vs i) w'
      rw [if_pos rfl]; exact hv
    unfold lStep at hst
    split
    · rename_i hw
      simp only [hw, if_true] at hst
      left
      unfold Oper.wp
      generalize (execOp (F vs).eval o).run P w = r at *
      cases r with
      | ok n w' =>
        cases n <;> simp only [lUpon] at hst <;> simp only [Oper.upon]
        case value u => exact go _ _ hst.1 hst.2
        case skip => exact go _ _ hst.1 hst.2
        case enter f args =>
          obtain ⟨e1, hc⟩ := hst
          rw [e1]
          exact hc.mono fun e w'' ⟨u, he, hb, hv⟩ => by subst he; exact go _ _ hb hv
      | halt x w' => simp only [lUpon] at hst
    · rename_i hw
      simp only [hw] at hst
      exact go _ _ (Below.refl _ _) hst

theorem lStep_put {oi oj : Oper} {a : Act} {v : Value} {w : World} {V : Value → World → Prop} (hs : ∀ cs b, oj.op ≠ .select cs b) (h : ∀ d, oi.dst = some d → d ∉ oj.looksAt ops) :
    lStep P ops oj (a.put oi.dst v) w V ↔ lStep P ops oj a w V := by
  unfold lStep
  rw [wanted_put oj a oi.dst v h, execOp_put oj hs a oi.dst v h]

theorem add_comm (K : Know) (i j : Nat) (V U : Value → World → Prop) : (K.add i V).add j U = (K.add j U).add i V := by
  funext D vs w
  exact propext and_right_comm

theorem wpAnyL_first {i : Nat} {oi : Oper} {V : Value → World → Prop} (hi : ops[i]? = some oi) (hV : Stab V) (hsel : ∀ (j : Nat) (o : Oper) cs b, ops[j]? = some o → o.op ≠ .select cs b) :
    ∀ (fuel : Nat) (listed : Array Bool) (K : Know) (F : Env → Act),
      (∀ j oj, ops[j]? = some oj → j ≠ i → listed.getD j true = false → (∀ e ∈ oj.after, Region.binds md e = true → e.on ≠ i) → oi.apart ops oj = true) →
      i ∈ Region.ready md ops listed → (∀ vs w, Below w0.heap.size w0 w → K (depOn md oi) vs w → lStep P ops oi (F vs) w V) →
      wpAnyL P md ops w0 Q fuel (listed.setIfInBounds i true) (K.add i V) (fun vs => (F vs).put oi.dst (vs i)) → wpAnyL P md ops w0 Q (fuel + 1) listed K F := by
  intro fuel
  induction fuel with
  | zero =>
    intro listed K F _ hr hs H
    refine ⟨fun h => (by rw [h] at hr; cases hr), fun j hj => ?_⟩
    by_cases hji : j = i
    · subst hji
      unfold lOp
      simp only [hi]
      exact ⟨V, hV, hs, H⟩
    · have := ready_mono hj hji
      rw [H.1] at this
      cases this
  | succ fuel ih =>
    intro listed K F hfree hr hs H
    refine ⟨fun h => (by rw [h] at hr; cases hr), fun j hj => ?_⟩
    by_cases hji : j = i
    · subst hji
      unfold lOp
      simp only [hi]
      exact ⟨V, hV, hs, H⟩
    · have h1 := H.2 j (ready_mono hj hji)
      obtain ⟨hjun, oj, hoj, hall⟩ := mem_ready.1 hj
      have hnot : ∀ e ∈ oj.after, Region.binds md e = true → e.on ≠ i := fun e he hb heq => by
        have h1 := hall e he hb
        have h0 := (mem_ready.1 hr).1
        rw [heq] at h1
        rcases Nat.lt_or_ge i listed.size with h' | h'
        · simp [h'] at h0 h1; rw [h0] at h1; cases h1
        · simp [Array.getElem?_eq_none h'] at h1
      obtain ⟨a1, a2, a3⟩ := Oper.apart_spec (hfree j oj hoj hji hjun hnot)
      have hdep : depOn md oj i = false := by
        unfold depOn
        rw [Array.any_eq_false']
        intro e he hb
        simp only [Bool.and_eq_true, beq_iff_eq] at hb
        exact hnot e he hb.1 hb.2
      have hfree' : ∀ k ok, ops[k]? = some ok → k ≠ i → (listed.setIfInBounds j true).getD k true = false →
          (∀ e ∈ ok.after, Region.binds md e = true → e.on ≠ i) → oi.apart ops ok = true := fun k ok hk hki hun hno => by
        refine hfree k ok hk hki ?_ hno
        by_cases hjk : j = k
        · subst hjk; exact hjun
        · rw [getD_set_ne true hjk] at hun; exact hun
      unfold lOp at h1 ⊢
      simp only [hoj] at h1 ⊢
      obtain ⟨U, hU, hu, hn⟩ := h1
      refine ⟨U, hU, fun vs w hC hK => ?_, ?_⟩
      · have := hu vs w hC ⟨hK, fun hd => by rw [hdep] at hd; cases hd⟩
        exact (lStep_put (fun cs b => hsel j oj cs b hoj) a1).1 this
      · refine ih (listed.setIfInBounds j true) (K.add j U) _ hfree' (ready_mono hr (Ne.symm hji)) (fun vs w hC hK => ?_) ?_
        · exact (lStep_put (fun cs b => hsel i oi cs b hi) a3).2 (hs vs w hC hK.1)
        · rw [Array.setIfInBounds_comm _ _ hji, ← add_comm K i j V U]
          have : (fun vs : Env => ((F vs).put oj.dst (vs j)).put oi.dst (vs i)) = (fun vs : Env => ((F vs).put oi.dst (vs i)).put oj.dst (vs j)) := by
            funext vs
            exact (Act.put_comm (F vs) (vs i) (vs j) a2).symm
          rw [this]
          exact hn

theorem wpAnyL_lex (hs : Region.noSelect ops = true) : ∀ (l : List Oper) (k : Nat) (listed : Array Bool) (K : Know) (F : Env → Act), (∀ j, l[j]? = ops[k + j]?) →
    Region.lexFrom md ops l.length k listed = true → wpL P md ops w0 Q l k K F → wpAnyL P md ops w0 Q l.length listed K F
  | [], _, _, _, _, _, hB, h => ⟨by simpa [Region.lexFrom] using hB, h⟩
  | o :: l, k, listed, K, F, hl, hB, h => by
    have h0 : ops[k]? = some o := by simpa using (hl 0).symm
    simp only [List.length_cons, Region.lexFrom, Bool.and_eq_true] at hB
    obtain ⟨⟨hr, hf⟩, hB'⟩ := hB
    obtain ⟨V, hV, hst, hn⟩ := h
    exact wpAnyL_first h0 hV (Region.noSelect_spec hs) l.length listed K F (Region.free_spec h0 hf) (by simpa using hr) hst
      (wpAnyL_lex hs l (k + 1) _ _ _ (fun j => by have := hl (j + 1); simpa [Nat.add_assoc, Nat.add_comm 1 j] using this) hB' hn)

/-- THE REGION: one walk of the lexical order. -/
theorem wp_region_loose {id : Nat} {a : Act} {w : World} {l : List Oper} (hm : P.follows .mixedOrders = true) (hB : Region.lexB .any l.toArray = true)
    (h : wpL P .any l.toArray w Q l 0 (fun _ _ _ => True) (fun _ => a)) : (Code.region id l.toArray true).wp P Q a w := by
  simp only [Region.lexB, Bool.and_eq_true] at hB
  refine wp_region_any hm ?_
  have h1 := wpAnyL_lex (md := .any) (w0 := w) (Q := Q) hB.1 l 0 (Array.replicate l.toArray.size false) (fun _ _ _ => True) (fun _ => a) (by simp) (by simpa using hB.2) h
  have h2 := wpAny_of_L (w0 := w) l.length (Array.replicate l.toArray.size false) (fun _ _ _ => True) (fun _ => a) (fun _ => undef) { w with drawn := w.drawn + 1 }
    ⟨fun _ _ _ _ _ _ => trivial, fun _ _ _ _ _ _ => trivial, fun _ _ _ _ _ _ => trivial, fun _ _ _ => rfl⟩ ⟨rfl, rfl, rfl, Nat.le_refl _, fun _ _ => rfl⟩ trivial h1
  simpa using h2

theorem stab_eq (c : Value) : Stab (fun u _ => u = c) := fun _ _ _ h _ => h
/-- one operation, by a law -/
theorem wpL_step {K : Know} {F : Env → Act} {k : Nat} {o : Oper} {rest : List Oper} (V : Value → World → Prop) (hV : Stab V)
    (h : ∀ vs w, Below w0.heap.size w0 w → K (depOn md o) vs w → lStep P ops o (F vs) w V) (hn : wpL P md ops w0 Q rest (k + 1) (K.add k V) (fun vs => (F vs).put o.dst (vs k))) :
    wpL P md ops w0 Q (o :: rest) k K F := ⟨V, hV, h, hn⟩
theorem wpL_det {K : Know} {F : Env → Act} {k : Nat} {o : Oper} {rest : List Oper}
    (h : ∃ c : Value, (∀ vs w, Below w0.heap.size w0 w → K (depOn md o) vs w → lStep P ops o (F vs) w (fun u _ => u = c)) ∧ wpL P md ops w0 Q rest (k + 1) (K.add k (fun u _ => u = c)) (fun vs => (F vs).put o.dst (vs k))) :
    wpL P md ops w0 Q (o :: rest) k K F := let ⟨c, h1, h2⟩ := h; ⟨_, stab_eq c, h1, h2⟩
/-- new bytes, and nothing else in their block -/
def NewBytes (ty : TypeId) (l : List UInt8) (u : Value) (W : World) : Prop := ∃ b, u = .slice (some ⟨b, 0, none⟩) l.length l.length ∧ W.heap[b]? = some (.cells ((l.map fun (c : UInt8) => Value.int .u8 (c.toNat : Int))).toArray ty (0, 0))
theorem stab_bytes (ty : TypeId) (l : List UInt8) : Stab (NewBytes ty l) := by
  rintro v w w' ⟨b, h1, h2⟩ hb
  refine ⟨b, h1, ?_⟩
  rw [hb.block b ?_]
  · exact h2
  · rcases Nat.lt_or_ge b w.heap.size with h | h
    · exact h
    · rw [Array.getElem?_eq_none h] at h2; cases h2
theorem wpL_nil {K : Know} {F : Env → Act} {k : Nat} (h : ∀ vs w, Below w0.heap.size w0 w → K (fun _ => true) vs w → Q .normal (F vs) w) : wpL P md ops w0 Q [] k K F := h
theorem lStep_eq (P : Program) (ops : Array Oper) (o : Oper) (a : Act) (w : World) (V : Value → World → Prop) : lStep P ops o a w V = if Region.wanted o (yielded ops a.tmps) then lUpon P w V ((execOp a.eval o).run P w) else V undef w := rfl
attribute [go_sem] lStep_eq lUpon
attribute [irreducible] lStep wpL
end
end Go.Proofs.Ythpompgcnemanaa.Loose
