/- Whether the lexical order of a region will do, told by masks: cheap for great regions too. -/
import Derived.Test.YthpompgcnemanaaGLoose
import Derived.Lib.QuietBelow
namespace Go.Proofs.Ythpompgcnemanaa.Loose
open Go.RowKit
set_option linter.unusedVariables false
set_option linter.unusedSimpArgs false

def maskOf : List Nat → Nat
  | [] => 0
  | t :: l => (1 <<< t) ||| maskOf l
theorem maskOf_bit : ∀ (l : List Nat) (t : Nat), t ∈ l → (maskOf l).testBit t = true
  | a :: l, t, h => by
    unfold maskOf
    rw [Nat.testBit_or]
    rcases List.mem_cons.1 h with rfl | h
    · have e : (1 <<< t : Nat).testBit t = true := by rw [Nat.one_shiftLeft]; exact Nat.testBit_two_pow_self
      rw [e]; rfl
    · rw [maskOf_bit l t h]; simp
def depsOf (o : Oper) : List Nat := o.after.toList.filterMap fun e => if Region.binds .any e then some e.on else none
def recOf (ops : Array Oper) (o : Oper) : Option Nat × Nat × Nat := (o.dst, maskOf (o.looksAt ops), maskOf (depsOf o))
def pairOK (k : Nat) (r s : Option Nat × Nat × Nat) : Bool :=
  s.2.2.testBit k || ((match r.1 with | some d => !s.2.1.testBit d && (match s.1 with | some f => !Nat.beq f d | none => true) | none => true) && (match s.1 with | some d => !r.2.1.testBit d | none => true))
def lexQgo : Nat → List (Option Nat × Nat × Nat) → Bool
  | _, [] => true
  | k, r :: rs => Nat.blt r.2.2 (1 <<< k) && rs.all (pairOK k r) && lexQgo (k + 1) rs
def fastB (l : List Oper) : Bool := Region.noSelect l.toArray && lexQgo 0 (l.map (recOf l.toArray))

theorem go_dep : ∀ (l : List (Option Nat × Nat × Nat)) (k : Nat), lexQgo k l = true → ∀ i r, l[i]? = some r → r.2.2 < 1 <<< (k + i)
  | r :: rs, k, h, 0, s, hs => by
    simp only [lexQgo, Bool.and_eq_true] at h
    cases hs
    simpa [Nat.blt_eq] using h.1.1
  | r :: rs, k, h, i + 1, s, hs => by
    simp only [lexQgo, Bool.and_eq_true] at h
    have := go_dep rs (k + 1) h.2 i s (by simpa using hs)
    rwa [show k + 1 + i = k + (i + 1) from by omega] at this
theorem go_pair : ∀ (l : List (Option Nat × Nat × Nat)) (k : Nat), lexQgo k l = true → ∀ i j r s, i < j → l[i]? = some r → l[j]? = some s → pairOK (k + i) r s = true
  | r :: rs, k, h, 0, j + 1, a, b, _, ha, hb => by
    simp only [lexQgo, Bool.and_eq_true] at h
    cases ha
    have hb' : rs[j]? = some b := by simpa using hb
    exact List.all_eq_true.1 h.1.2 b (List.mem_of_getElem? hb')
  | r :: rs, k, h, i + 1, j + 1, a, b, hij, ha, hb => by
    simp only [lexQgo, Bool.and_eq_true] at h
    have := go_pair rs (k + 1) h.2 i j a b (by omega) (by simpa using ha) (by simpa using hb)
    rwa [show k + 1 + i = k + (i + 1) from by omega] at this

theorem deps_mem {o : Oper} {e : Edge} (he : e ∈ o.after) (hb : Region.binds .any e = true) : e.on ∈ depsOf o := by
  unfold depsOf
  rw [List.mem_filterMap]
  exact ⟨e, by simpa using he, by simp [hb]⟩
theorem fast_dep {l : List Oper} (h : lexQgo 0 (l.map (recOf l.toArray)) = true) {k : Nat} {o : Oper} (ho : l[k]? = some o) {e : Edge} (he : e ∈ o.after) (hb : Region.binds .any e = true) : e.on < k := by
  have h1 := go_dep _ 0 h k (recOf l.toArray o) (by rw [List.getElem?_map, ho]; rfl)
  rw [Nat.zero_add] at h1
  have h2 := maskOf_bit _ _ (deps_mem he hb)
  rcases Nat.lt_or_ge e.on k with h3 | h3
  · exact h3
  · exfalso
    have h4 : (maskOf (depsOf o)).testBit e.on = false := Nat.testBit_lt_two_pow (Nat.lt_of_lt_of_le h1 (by rw [Nat.one_shiftLeft]; exact Nat.pow_le_pow_right (by omega) h3))
    rw [h2] at h4; cases h4
theorem fast_pair {l : List Oper} (h : lexQgo 0 (l.map (recOf l.toArray)) = true) {i j : Nat} {oi oj : Oper} (hij : i < j) (hi : l[i]? = some oi) (hj : l[j]? = some oj) :
    (oj.after.any (fun e => Region.binds .any e && e.on == i) || oi.apart l.toArray oj) = true := by
  have h1 := go_pair _ 0 h i j (recOf l.toArray oi) (recOf l.toArray oj) hij (by rw [List.getElem?_map, hi]; rfl) (by rw [List.getElem?_map, hj]; rfl)
  rw [Nat.zero_add] at h1
  unfold pairOK recOf at h1
  simp only [Bool.or_eq_true, Bool.and_eq_true] at h1 ⊢
  rcases h1 with h1 | h1
  · by_cases hd : i ∈ depsOf oj
    · left
      unfold depsOf at hd
      rw [List.mem_filterMap] at hd
      obtain ⟨e, he, hq⟩ := hd
      by_cases hb : Region.binds .any e = true
      · rw [if_pos hb] at hq
        cases hq
        rw [Array.any_eq_true']
        exact ⟨e, by simpa using he, by simp [hb]⟩
      · rw [if_neg hb] at hq; cases hq
    · exfalso
      have key : ∀ (m : List Nat) (t : Nat), t ∉ m → (maskOf m).testBit t = false := by
        intro m
        induction m with
        | nil => intro t _; simp [maskOf]
        | cons a m ih =>
          intro t ht
          unfold maskOf
          rw [Nat.testBit_or, ih t (fun h => ht (List.mem_cons_of_mem _ h)), Nat.one_shiftLeft, Nat.testBit_two_pow_of_ne (fun e => ht (by rw [e]; exact List.mem_cons_self))]
          rfl
      rw [key _ _ hd] at h1; cases h1
  · right
    obtain ⟨h2, h3⟩ := h1
    unfold Oper.apart
    rw [Bool.and_eq_true]
    constructor
    · cases hdi : oi.dst with
      | none => rfl
      | some d =>
        rw [hdi] at h2
        simp only [Bool.and_eq_true, Bool.not_eq_true'] at h2 ⊢
        refine ⟨?_, ?_⟩
        · rw [List.contains_eq_mem]
          apply decide_eq_false
          intro hm
          rw [maskOf_bit _ _ hm] at h2; cases h2.1
        · cases hdj : oj.dst with
          | none => rfl
          | some f =>
            rw [hdj] at h2
            have h4 := h2.2
            simp only [Bool.not_eq_true'] at h4
            have : f ≠ d := by intro e; subst e; rw [Nat.beq_refl] at h4; cases h4
            simpa using this
    · cases hdj : oj.dst with
      | none => rfl
      | some d =>
        rw [hdj] at h3
        simp only [Bool.not_eq_true'] at h3 ⊢
        rw [List.contains_eq_mem]
        apply decide_eq_false
        intro hm
        rw [maskOf_bit _ _ hm] at h3; cases h3

theorem fast_from {l : List Oper} (h : lexQgo 0 (l.map (recOf l.toArray)) = true) : ∀ (n k : Nat) (listed : Array Bool), n + k = l.length → listed.size = l.length → (∀ j, j < l.length → listed[j]? = some (decide (j < k))) → Region.lexFrom .any l.toArray n k listed = true
  | 0, k, listed, hk, hs, hl => by
    unfold Region.lexFrom
    rw [List.isEmpty_iff]
    rw [List.eq_nil_iff_forall_not_mem]
    intro j hj
    obtain ⟨h0, _⟩ := mem_ready.1 hj
    have hlt := getD_unlisted h0
    have := hl j (by omega)
    rw [Array.getD_eq_getD_getElem?, this] at h0
    simp at h0
    omega
  | n + 1, k, listed, hk, hs, hl => by
    have hkl : k < l.length := by omega
    obtain ⟨o, ho⟩ : ∃ o, l[k]? = some o := ⟨l[k], List.getElem?_eq_getElem hkl⟩
    have ho' : l.toArray[k]? = some o := by rw [List.getElem?_toArray]; exact ho
    unfold Region.lexFrom
    rw [Bool.and_eq_true, Bool.and_eq_true]
    refine ⟨⟨?_, ?_⟩, ?_⟩
    · have hm : k ∈ Region.ready .any l.toArray listed := by
        rw [mem_ready]
        refine ⟨?_, o, ho', fun e he hb => ?_⟩
        · rw [Array.getD_eq_getD_getElem?, hl k hkl]; simp
        · have := fast_dep h ho he hb
          rw [Array.getD_eq_getD_getElem?, hl e.on (by omega)]
          simpa using this
      simpa using hm
    · unfold Region.free
      simp only [ho', List.all_eq_true, List.mem_range]
      intro j hj
      have hj' : j < l.length := by simpa using hj
      have hoj : l.toArray[j]? = some l[j] := by rw [List.getElem?_toArray]; exact List.getElem?_eq_getElem hj'
      rcases Nat.lt_trichotomy j k with hjk | hjk | hjk
      · have : listed.getD j true = true := by rw [Array.getD_eq_getD_getElem?, hl j hj']; simpa using hjk
        rw [this]; simp
      · subst hjk; simp
      · have := fast_pair h hjk ho (List.getElem?_eq_getElem hj')
        rw [hoj]
        simp only [this, Bool.or_true]
    · refine fast_from h n (k + 1) _ (by omega) (by simpa using hs) (fun j hj => ?_)
      rw [Array.getElem?_setIfInBounds]
      by_cases e : k = j
      · subst e
        rw [if_pos rfl, if_pos (by omega)]
        simp
      · rw [if_neg e, hl j hj]
        congr 1
        apply decide_eq_decide.2
        omega

theorem lexB_fast {l : List Oper} (h : fastB l = true) : Region.lexB .any l.toArray = true := by
  unfold fastB at h
  rw [Bool.and_eq_true] at h
  unfold Region.lexB
  rw [Bool.and_eq_true]
  refine ⟨h.1, ?_⟩
  refine fast_from h.2 _ 0 _ (by simp) (by simp) (fun j hj => ?_)
  simp [hj]

theorem wp_region_quiet_fast {P : Program} {id : Nat} {Q : Exit → Act → World → Prop} {a : Act} {w : World} {l : List Oper} (hm : P.follows .mixedOrders = true) (hB : fastB l = true)
    (h : wpQuiet P l.toArray (fun w' => ∃ p : Regrown, w' = Sort.grow (redrawn w p.d) p.os) (fun a' => ∀ w', (∃ p : Regrown, w' = Sort.grow (redrawn w p.d) p.os) → Q .normal a' w') l a) : (Code.region id l.toArray true).wp P Q a w :=
  wp_region_quiet_below hm (lexB_fast hB) h
theorem wp_region_loose_fast {P : Program} {Q : Exit → Act → World → Prop} {id : Nat} {a : Act} {w : World} {l : List Oper} (hm : P.follows .mixedOrders = true) (hB : fastB l = true)
    (h : wpL P .any l.toArray w Q l 0 (fun _ _ _ => True) (fun _ => a)) : (Code.region id l.toArray true).wp P Q a w :=
  wp_region_loose hm (lexB_fast hB) h
end Go.Proofs.Ythpompgcnemanaa.Loose
