/- Regions that draw their order and end in stores: the operations ahead of the first store in one walk (each slot told by a law), the rest as it must come. -/
import Derived.Test.YthpompgcnemanaaGLoose
import Derived.RegionTactic
namespace Go.Proofs.Ythpompgcnemanaa.Loose
open Go.RowKit
set_option linter.unusedVariables false
set_option linter.unusedSimpArgs false
section
variable {P : Program} {ops : Array Oper} {md : Region.Mode} {w0 : World} {Q : Exit → Act → World → Prop}

def wpM (P : Program) (md : Region.Mode) (ops : Array Oper) (w0 : World) (Fin : Know → (Env → Act) → Prop) : List Nat → Know → (Env → Act) → Prop
  | [], K, F => Fin K F
  | i :: rest, K, F => ∃ o, ops[i]? = some o ∧ ∃ V, Stab V ∧ (∀ vs w, Below w0.heap.size w0 w → K (depOn md o) vs w → lStep P ops o (F vs) w V) ∧ wpM P md ops w0 Fin rest (K.add i V) (fun vs => (F vs).put o.dst (vs i))

def finT (P : Program) (md : Region.Mode) (ops : Array Oper) (w0 : World) (Q : Exit → Act → World → Prop) (m : Nat) (listed : Array Bool) : Know → (Env → Act) → Prop :=
  fun K F => ∀ vs w, Below w0.heap.size w0 w → K (fun _ => true) vs w → wpAny P md ops Q m listed (F vs) w

def wpAnyT (P : Program) (md : Region.Mode) (ops : Array Oper) (w0 : World) (Fin : Array Bool → Know → (Env → Act) → Prop) : Nat → Array Bool → Know → (Env → Act) → Prop
  | 0, listed, K, F => Fin listed K F
  | fuel + 1, listed, K, F => Region.ready md ops listed ≠ [] ∧ ∀ i ∈ Region.ready md ops listed, lOp P md ops w0 i K F (wpAnyT P md ops w0 Fin fuel (listed.setIfInBounds i true))

theorem wpAny_of_T (m : Nat) : ∀ (fuel : Nat) (listed : Array Bool) (K : Know) (F : Env → Act) (vs : Env) (w : World), Inv listed K F → Below w0.heap.size w0 w → K (fun _ => true) vs w →
    wpAnyT P md ops w0 (finT P md ops w0 Q m) fuel listed K F → wpAny P md ops Q (m + fuel) listed (F vs) w
  | 0, _, _, _, vs, w, _, hC, hK, h => h vs w hC hK
  | fuel + 1, listed, K, F, vs, w, hI, hC, hK, h => by
    refine ⟨fun h0 => absurd h0 h.1, fun i hi => ?_⟩
    have h2 := h.2 i hi
    obtain ⟨hun, o, ho, _⟩ := mem_ready.1 hi
    have hlt := getD_unlisted hun
    unfold lOp at h2
    unfold wpOp
    simp only [ho] at h2 ⊢
    obtain ⟨V, hV, hs, hn⟩ := h2
    have hst := hs vs w hC (hI.mono _ _ vs w (fun _ _ => rfl) hK)
    have go : ∀ u w', Below w.heap.size w w' → V u w' → wpAny P md ops Q (m + fuel) (listed.setIfInBounds i true) ((F vs).put o.dst u) w' := by
      intro u w' hb hv
      have hag : ∀ j, listed.getD j true = true → vs j = (fun j => if j = i then u else vs j) j := by
        intro j hj
        by_cases e : j = i
        · subst e; rw [hun] at hj; cases hj
        · simp [e]
      have e1 : (F vs).put o.dst u = (fun vs => (F vs).put o.dst (vs i)) (fun j => if j = i then u else vs j) := by
        show _ = (F (fun j => if j = i then u else vs j)).put o.dst (if i = i then u else vs i)
        rw [← hI.locF vs _ hag, if_pos rfl]
      rw [e1]
      refine wpAny_of_T m fuel _ (K.add i V) _ _ w' (hI.add i hlt hV o.dst) (below_trans hC hb) ⟨hI.locK _ vs _ w' hag (hI.stab _ vs w w' hK hb), fun _ => ?_⟩ hn
      show V (if i = i then u else vs i) w'
      rw [if_pos rfl]; exact hv
    rw [lStep_eq] at hst
    split
    · rename_i hw
      simp only [hw, if_true] at hst
      left
      unfold Oper.wp
      generalize (execOp (F vs).eval o).run P w = r at *
      cases r with
      | ok n w' =>
        cases n <;> simp only [lUpon] at hst <;> simp only [Oper.upon]
        case value u => exact go _ _ hst.1 hst.2
        case skip => exact go _ _ hst.1 hst.2
        case enter f args =>
          obtain ⟨e1, hc⟩ := hst
          rw [e1]
          exact hc.mono fun e w'' ⟨u, he, hb, hv⟩ => by subst he; exact go _ _ hb hv
      | halt x w' => simp only [lUpon] at hst
    · rename_i hw
      simp only [hw] at hst
      exact go _ _ (Below.refl _ _) hst

def depB (md : Region.Mode) (ops : Array Oper) (i j : Nat) : Bool := match ops[j]? with | some o => o.after.any fun e => Region.binds md e && e.on == i | none => false
def chainB (md : Region.Mode) (ops : Array Oper) (s0 : Nat) : List Nat → Bool
  | [] => true
  | i :: r => (r.any (depB md ops i) || depB md ops i s0) && chainB md ops s0 r
def restB (md : Region.Mode) (ops : Array Oper) (ord : List Nat) (s0 : Nat) : Bool :=
  (List.range ops.size).all fun t => ord.contains t || t == s0 || match ops[t]? with | some o => o.after.any (fun e => Region.binds md e && !ord.contains e.on) | none => true
def ordFrom (md : Region.Mode) (ops : Array Oper) : List Nat → Array Bool → Bool
  | [], _ => true
  | i :: r, listed => (Region.ready md ops listed).contains i && Region.free md ops listed i && ordFrom md ops r (listed.setIfInBounds i true)
def distinctB : List Nat → Bool
  | [] => true
  | i :: r => !r.contains i && distinctB r
def tailB (md : Region.Mode) (ops : Array Oper) (ord : List Nat) (s0 : Nat) : Bool :=
  Region.noSelect ops && chainB md ops s0 ord && restB md ops ord s0 && distinctB ord && !ord.contains s0 && ordFrom md ops ord (Array.replicate ops.size false)

def Closed (md : Region.Mode) (ops : Array Oper) (listed : Array Bool) : Prop := ∀ j o, ops[j]? = some o → listed.getD j false = true → ∀ e ∈ o.after, Region.binds md e = true → listed.getD e.on false = true

theorem distinctB_nodup : ∀ l : List Nat, distinctB l = true → l.Nodup
  | [], _ => List.nodup_nil
  | i :: r, h => by
    simp only [distinctB, Bool.and_eq_true, Bool.not_eq_true'] at h
    exact List.nodup_cons.2 ⟨by simpa using h.1, distinctB_nodup r h.2⟩

theorem chain_listed {s0 : Nat} {listed : Array Bool} (hc : Closed md ops listed) (hs : s0 ∈ Region.ready md ops listed) : ∀ r : List Nat, chainB md ops s0 r = true → ∀ i ∈ r, listed.getD i false = true
  | [], _, _, h => by cases h
  | i :: r, h, k, hk => by
    simp only [chainB, Bool.and_eq_true, Bool.or_eq_true] at h
    have ih := chain_listed hc hs r h.2
    rcases List.mem_cons.1 hk with rfl | hk
    · rcases h.1 with h1 | h1
      · obtain ⟨j, hj, hd⟩ := List.any_eq_true.1 h1
        unfold depB at hd
        cases ho : ops[j]? with
        | none => rw [ho] at hd; cases hd
        | some o =>
          rw [ho] at hd
          obtain ⟨e, he, hb⟩ := Array.any_eq_true'.1 hd
          simp only [Bool.and_eq_true, beq_iff_eq] at hb
          have := hc j o ho (ih j hj) e he hb.1
          rw [hb.2] at this; exact this
      · unfold depB at h1
        obtain ⟨_, o, ho, hall⟩ := mem_ready.1 hs
        rw [ho] at h1
        obtain ⟨e, he, hb⟩ := Array.any_eq_true'.1 h1
        simp only [Bool.and_eq_true, beq_iff_eq] at hb
        have := hall e he hb.1
        rw [hb.2] at this; exact this
    · exact ih k hk

theorem getD_tf {listed : Array Bool} {j : Nat} (h : listed.getD j true = false) : listed.getD j false = false := by
  have := getD_unlisted h
  simp [this] at h ⊢; exact h

theorem ready_ord {s0 : Nat} {ord : List Nat} {listed : Array Bool} (hc : Closed md ops listed) (hu : ∀ t, t ∉ ord → listed.getD t false = false) (hch : chainB md ops s0 ord = true) (hre : restB md ops ord s0 = true)
    {i : Nat} (hi : i ∈ ord) (hun : listed.getD i false = false) {j : Nat} (hj : j ∈ Region.ready md ops listed) : j ∈ ord := by
  refine Classical.byContradiction fun hno => ?_
  have hj' := hj
  obtain ⟨_, o, ho, hall⟩ := mem_ready.1 hj
  have h1 := List.all_eq_true.1 hre j (List.mem_range.2 (Array.getElem?_eq_some_iff.1 ho).1)
  simp only [ho, Bool.or_eq_true, beq_iff_eq, List.contains_iff_mem] at h1
  rcases h1 with (h1 | h1) | h1
  · exact hno h1
  · subst h1
    have := chain_listed hc hj' ord hch i hi
    rw [hun] at this; cases this
  · obtain ⟨e, he, hb⟩ := Array.any_eq_true'.1 h1
    simp only [Bool.and_eq_true, Bool.not_eq_true'] at hb
    have h2 := hall e he hb.1
    have h3 := hu e.on (by simpa using hb.2)
    rw [h3] at h2; cases h2

theorem closed_step {listed : Array Bool} (hc : Closed md ops listed) {j : Nat} (hj : j ∈ Region.ready md ops listed) : Closed md ops (listed.setIfInBounds j true) := by
  intro k o ho hk e he hb
  obtain ⟨_, oj, hoj, hall⟩ := mem_ready.1 hj
  by_cases hjk : j = k
  · subst hjk
    rw [hoj] at ho
    cases ho
    exact getD_set_true (hall e he hb)
  · rw [getD_set_ne false hjk] at hk
    exact getD_set_true (hc k o ho hk e he hb)

theorem wpAnyT_first {Fin : Array Bool → Know → (Env → Act) → Prop} {s0 : Nat} {ord : List Nat} (hch : chainB md ops s0 ord = true) (hre : restB md ops ord s0 = true)
    {i : Nat} {oi : Oper} {V : Value → World → Prop} (hi : ops[i]? = some oi) (hV : Stab V) (hsel : ∀ (j : Nat) (o : Oper) cs b, ops[j]? = some o → o.op ≠ .select cs b) :
    ∀ (fuel : Nat) (listed : Array Bool) (K : Know) (F : Env → Act) (rem : List Nat), rem.length = fuel + 1 → rem.Nodup → (∀ j, j ∈ rem ↔ j ∈ ord ∧ listed.getD j false = false) → Closed md ops listed → (∀ t, t ∉ ord → listed.getD t false = false) → i ∈ rem →
      (∀ j oj, ops[j]? = some oj → j ≠ i → listed.getD j true = false → (∀ e ∈ oj.after, Region.binds md e = true → e.on ≠ i) → oi.apart ops oj = true) →
      i ∈ Region.ready md ops listed → (∀ vs w, Below w0.heap.size w0 w → K (depOn md oi) vs w → lStep P ops oi (F vs) w V) →
      wpAnyT P md ops w0 Fin fuel (listed.setIfInBounds i true) (K.add i V) (fun vs => (F vs).put oi.dst (vs i)) → wpAnyT P md ops w0 Fin (fuel + 1) listed K F := by
  intro fuel
  induction fuel with
  | zero =>
    intro listed K F rem hlen hnd hmem hc hu hir _ hr hs H
    refine ⟨fun h => (by rw [h] at hr; cases hr), fun j hj => ?_⟩
    have hjr : j ∈ rem := (hmem j).2 ⟨ready_ord hc hu hch hre ((hmem i).1 hir).1 ((hmem i).1 hir).2 hj, getD_tf (mem_ready.1 hj).1⟩
    have hji : j = i := by
      obtain ⟨x, hx⟩ := List.length_eq_one_iff.1 hlen
      rw [hx] at hjr hir
      rw [List.mem_singleton.1 hjr, List.mem_singleton.1 hir]
    subst hji
    unfold lOp
    simp only [hi]
    exact ⟨V, hV, hs, H⟩
  | succ fuel ih =>
    intro listed K F rem hlen hnd hmem hc hu hir hfree hr hs H
    refine ⟨fun h => (by rw [h] at hr; cases hr), fun j hj => ?_⟩
    by_cases hji : j = i
    · subst hji
      unfold lOp
      simp only [hi]
      exact ⟨V, hV, hs, H⟩
    · have hjo : j ∈ ord := ready_ord hc hu hch hre ((hmem i).1 hir).1 ((hmem i).1 hir).2 hj
      have hjr : j ∈ rem := (hmem j).2 ⟨hjo, getD_tf (mem_ready.1 hj).1⟩
      have h1 := H.2 j (ready_mono hj hji)
      obtain ⟨hjun, oj, hoj, hall⟩ := mem_ready.1 hj
      have hnot : ∀ e ∈ oj.after, Region.binds md e = true → e.on ≠ i := fun e he hb heq => by
        have h1 := hall e he hb
        have h0 := (mem_ready.1 hr).1
        rw [heq] at h1
        rcases Nat.lt_or_ge i listed.size with h' | h'
        · simp [h'] at h0 h1; rw [h0] at h1; cases h1
        · simp [Array.getElem?_eq_none h'] at h1
      obtain ⟨a1, a2, a3⟩ := Oper.apart_spec (hfree j oj hoj hji hjun hnot)
      have hdep : depOn md oj i = false := by
        unfold depOn
        rw [Array.any_eq_false']
        intro e he hb
        simp only [Bool.and_eq_true, beq_iff_eq] at hb
        exact hnot e he hb.1 hb.2
      have hfree' : ∀ k ok, ops[k]? = some ok → k ≠ i → (listed.setIfInBounds j true).getD k true = false →
          (∀ e ∈ ok.after, Region.binds md e = true → e.on ≠ i) → oi.apart ops ok = true := fun k ok hk hki hun hno => by
        refine hfree k ok hk hki ?_ hno
        by_cases hjk : j = k
        · subst hjk; exact hjun
        · rw [getD_set_ne true hjk] at hun; exact hun
      unfold lOp at h1 ⊢
      simp only [hoj] at h1 ⊢
      obtain ⟨U, hU, hus, hn⟩ := h1
      refine ⟨U, hU, fun vs w hC hK => ?_, ?_⟩
      · have := hus vs w hC ⟨hK, fun hd => by rw [hdep] at hd; cases hd⟩
        exact (lStep_put (fun cs b => hsel j oj cs b hoj) a1).1 this
      · refine ih (listed.setIfInBounds j true) (K.add j U) _ (rem.erase j) ?_ (hnd.erase j) ?_ (closed_step hc hj) ?_ ?_ hfree' (ready_mono hr (Ne.symm hji)) (fun vs w hC hK => ?_) ?_
        · rw [List.length_erase_of_mem hjr]; omega
        · intro k
          rw [hnd.mem_erase_iff, hmem k]
          by_cases hjk : j = k
          · subst hjk
            have hlt := getD_unlisted hjun
            simp [hlt]
          · rw [getD_set_ne false hjk]
            constructor
            · exact fun h => h.2
            · exact fun h => ⟨fun e => hjk e.symm, h⟩
        · intro t ht
          have hjt : j ≠ t := fun e => ht (e ▸ hjo)
          rw [getD_set_ne false hjt]; exact hu t ht
        · exact (hnd.mem_erase_iff).2 ⟨Ne.symm hji, hir⟩
        · exact (lStep_put (fun cs b => hsel i oi cs b hi) a3).2 (hs vs w hC hK.1)
        · rw [Array.setIfInBounds_comm _ _ hji, ← add_comm K i j V U]
          have : (fun vs : Env => ((F vs).put oj.dst (vs j)).put oi.dst (vs i)) = (fun vs : Env => ((F vs).put oi.dst (vs i)).put oj.dst (vs j)) := by
            funext vs
            exact (Act.put_comm (F vs) (vs i) (vs j) a2).symm
          rw [this]
          exact hn

theorem wpAnyT_ord {Fin : Array Bool → Know → (Env → Act) → Prop} {s0 : Nat} {ord : List Nat} (hs : Region.noSelect ops = true) (hch : chainB md ops s0 ord = true) (hre : restB md ops ord s0 = true) : ∀ (l : List Nat) (listed : Array Bool) (K : Know) (F : Env → Act),
    l.Nodup → (∀ j, j ∈ l ↔ j ∈ ord ∧ listed.getD j false = false) → Closed md ops listed → (∀ t, t ∉ ord → listed.getD t false = false) → ordFrom md ops l listed = true →
    wpM P md ops w0 (Fin (l.foldl (fun s i => s.setIfInBounds i true) listed)) l K F → wpAnyT P md ops w0 Fin l.length listed K F
  | [], _, _, _, _, _, _, _, _, h => h
  | i :: l, listed, K, F, hnd, hmem, hc, hu, hB, h => by
    obtain ⟨o, ho, V, hV, hst, hn⟩ := h
    simp only [ordFrom, Bool.and_eq_true] at hB
    obtain ⟨⟨hr, hf⟩, hB'⟩ := hB
    have hr' : i ∈ Region.ready md ops listed := by simpa using hr
    have hio := ((hmem i).1 List.mem_cons_self).1
    refine wpAnyT_first hch hre ho hV (Region.noSelect_spec hs) l.length listed K F (i :: l) rfl hnd hmem hc hu List.mem_cons_self (Region.free_spec ho hf) hr' hst ?_
    refine wpAnyT_ord hs hch hre l _ _ _ (List.nodup_cons.1 hnd).2 ?_ (closed_step hc hr') ?_ hB' hn
    · intro k
      by_cases hik : i = k
      · subst hik
        have hlt := getD_unlisted (mem_ready.1 hr').1
        simp [hlt, (List.nodup_cons.1 hnd).1]
      · rw [getD_set_ne false hik, ← hmem k]
        constructor
        · exact fun h => List.mem_cons_of_mem _ h
        · intro h
          rcases List.mem_cons.1 h with h | h
          · exact absurd h.symm hik
          · exact h
    · intro t ht
      have hjt : i ≠ t := fun e => ht (e ▸ hio)
      rw [getD_set_ne false hjt]; exact hu t ht

/-- THE REGION: the operations 'ord' first, in that order; then the rest, of which 's0' is the first. -/
theorem wp_region_tail {id : Nat} {a : Act} {w : World} {l : List Oper} (ord : List Nat) (s0 m : Nat) (hm : P.follows .mixedOrders = true) (hB : tailB .any l.toArray ord s0 = true) (hlen : (m + ord.length == l.length) = true)
    (h : wpM P .any l.toArray w (finT P .any l.toArray w Q m (ord.foldl (fun s i => s.setIfInBounds i true) (Array.replicate l.toArray.size false))) ord (fun _ _ _ => True) (fun _ => a)) : (Code.region id l.toArray true).wp P Q a w := by
  simp only [tailB, Bool.and_eq_true, Bool.not_eq_true'] at hB
  obtain ⟨⟨⟨⟨⟨h1, h2⟩, h3⟩, h4⟩, h5⟩, h6⟩ := hB
  refine wp_region_any hm ?_
  have hz : ∀ t, (Array.replicate l.toArray.size false).getD t false = false := by intro t; simp [Array.getElem?_replicate]; split <;> rfl
  have g1 := wpAnyT_ord (md := .any) (w0 := w) (Fin := finT P .any l.toArray w Q m) h1 h2 h3 ord (Array.replicate l.toArray.size false) (fun _ _ _ => True) (fun _ => a) (distinctB_nodup _ h4) (fun j => ⟨fun hj => ⟨hj, hz j⟩, fun hj => hj.1⟩) (fun j o _ hj => by rw [hz j] at hj; cases hj) (fun t _ => hz t) h6 h
  have g2 := wpAny_of_T (w0 := w) m ord.length (Array.replicate l.toArray.size false) (fun _ _ _ => True) (fun _ => a) (fun _ => undef) { w with drawn := w.drawn + 1 }
    ⟨fun _ _ _ _ _ _ => trivial, fun _ _ _ _ _ _ => trivial, fun _ _ _ _ _ _ => trivial, fun _ _ _ => rfl⟩ ⟨rfl, rfl, rfl, Nat.le_refl _, fun _ _ => rfl⟩ trivial g1
  have e : m + ord.length = l.toArray.size := by simpa using hlen
  rw [e] at g2
  exact g2

/-- one operation, by a law -/
theorem wpM_step {l : List Oper} {Fin : Know → (Env → Act) → Prop} {K : Know} {F : Env → Act} {k : Nat} {o : Oper} {rest : List Nat} (ho : l[k]? = some o) (V : Value → World → Prop) (hV : Stab V)
    (h : ∀ vs w, Below w0.heap.size w0 w → K (depOn md o) vs w → lStep P l.toArray o (F vs) w V) (hn : wpM P md l.toArray w0 Fin rest (K.add k V) (fun vs => (F vs).put o.dst (vs k))) :
    wpM P md l.toArray w0 Fin (k :: rest) K F := ⟨o, by rw [List.getElem?_toArray]; exact ho, V, hV, h, hn⟩
theorem wpM_det {l : List Oper} {Fin : Know → (Env → Act) → Prop} {K : Know} {F : Env → Act} {k : Nat} {o : Oper} {rest : List Nat} (ho : l[k]? = some o)
    (h : ∃ c : Value, (∀ vs w, Below w0.heap.size w0 w → K (depOn md o) vs w → lStep P l.toArray o (F vs) w (fun u _ => u = c)) ∧ wpM P md l.toArray w0 Fin rest (K.add k (fun u _ => u = c)) (fun vs => (F vs).put o.dst (vs k))) :
    wpM P md l.toArray w0 Fin (k :: rest) K F := let ⟨c, h1, h2⟩ := h; ⟨o, by rw [List.getElem?_toArray]; exact ho, _, stab_eq c, h1, h2⟩
/-- the one operation that may come up, behind the others -/
theorem wpAny_one {l : List Oper} {fuel : Nat} {listed : Array Bool} {a : Act} {w : World} (i : Nat) {o : Oper} (hr : Region.ready md l.toArray listed = [i]) (ho : l[i]? = some o)
    (h : ∀ K' : Act → World → Prop, (∀ a w, wpAny P md l.toArray Q fuel (listed.setIfInBounds i true) a w → K' a w) → if Region.wanted o (yielded l.toArray a.tmps) = true then Oper.wp P o a w K' Q else K' (a.put o.dst undef) w) :
    wpAny P md l.toArray Q (fuel + 1) listed a w :=
  wpAny_ready (rs := [i]) hr (by simp) (AllReady.cons (by rw [List.getElem?_toArray]; exact ho) h AllReady.nil)
theorem wpM_nil {m : Nat} {listed : Array Bool} {K : Know} {F : Env → Act} (h : ∀ vs w, Below w0.heap.size w0 w → K (fun _ => true) vs w → wpAny P md ops Q m listed (F vs) w) : wpM P md ops w0 (finT P md ops w0 Q m listed) [] K F := h
attribute [irreducible] wpM
end
end Go.Proofs.Ythpompgcnemanaa.Loose
