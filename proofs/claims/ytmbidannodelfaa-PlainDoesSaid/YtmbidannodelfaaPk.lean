/- The keys of a map of sessions, sorted. -/
import Derived.Test.YtmbidannodelfaaPm
import Derived.Test.YtmbidannodelfaaGRows
import Derived.Test.YtmbidannodelfaaIter
namespace Go.Proofs.Ytmbidannodelfaa.G
open Go.RowKit Go.Maps Go.Proofs
set_option linter.unusedVariables false
set_option linter.unusedSimpArgs false

/-- the keys, by rising ids -/
structure KeysL (f : ByteArray → Option Ses) (ks : List ByteArray) : Prop where
  sorted : ks.Pairwise fun a b => bl8 a < bl8 b
  mem : ∀ k, k ∈ ks ↔ (f k).isSome = true
abbrev encK (k : ByteArray) : List Value := [.string k]

theorem Keys_val (b : Nat) (W : World) : Calls Try.prog 39 #[.map (some b)] W fun e w' =>
    e = .returned (.func (.func 55) #[] #[.pointer (some ⟨W.heap.size, 0, none⟩)]) ∧ w' = W.alloc (.cells #[.map (some b)] 65) :=
  callsIn_wide.1 (Try.maps_Keys_39 (some b) W)

theorem str_nodup {w : World} {b n : Nat} {D : DataW Unit} (hown : w.ownsMap Try.prog 9 RS b n D) : (strKeys D).Nodup ∧ ∀ x, x ∈ strKeys D ↔ Maps.has D (.string x) = true := by
  obtain ⟨es, hD, hpw, _⟩ := hown.entries str_key
  obtain ⟨es', hD', hko⟩ := hown.keysOf
  obtain rfl : es = es' := by rw [hD] at hD'; simpa using hD'
  subst hD
  have hk : ∀ p ∈ es, ∃ x, p.1 = .string x := fun p hp => by obtain ⟨v, hv⟩ := hko p hp; obtain ⟨x, _, hx, _⟩ := Maps.keyOf_str Try.underlying9 hv; exact ⟨x, hx⟩
  constructor
  · show (es.map fun p => strOf p.1).Nodup
    refine List.pairwise_map.2 (hpw.imp_of_mem fun {p q} hp' hq' hne e => hne ?_)
    obtain ⟨a, ha⟩ := hk p hp'
    obtain ⟨b, hb⟩ := hk q hq'
    rw [ha, hb] at e ⊢
    exact congrArg _ e
  · intro x
    rw [has_eq, List.any_eq_true]
    show x ∈ es.map (fun p => strOf p.1) ↔ _
    rw [List.mem_map]
    constructor
    · rintro ⟨p, hp', rfl⟩
      obtain ⟨a, ha⟩ := hk p hp'
      exact ⟨p, hp', by rw [ha]; simp [Lit.sameKey, strOf]⟩
    · rintro ⟨p, hp', hs⟩
      obtain ⟨a, ha⟩ := hk p hp'
      rw [ha] at hs
      exact ⟨p, hp', by rw [ha]; simpa [Lit.sameKey, strOf] using hs⟩
theorem sort_strict (ss : List (List UInt8)) (hnd : ss.Nodup) : (ss.mergeSort leB).Pairwise (fun a b => a < b) := by
  have tr : ∀ a b c : List UInt8, leB a b = true → leB b c = true → leB a c = true := fun a b c h1 h2 => by simp only [leB, decide_eq_true_eq] at *; exact List.le_trans h1 h2
  have to : ∀ a b : List UInt8, (leB a b || leB b a) = true := fun a b => by simp only [leB, Bool.or_eq_true, decide_eq_true_eq]; exact List.le_total a b
  have h1 := List.pairwise_mergeSort tr to ss
  have h2 : (ss.mergeSort leB).Nodup := (List.mergeSort_perm ss leB).nodup_iff.2 hnd
  refine (h1.and h2).imp fun {a b} h => ?_
  obtain ⟨ha, hb⟩ := h
  simp only [leB, decide_eq_true_eq] at ha
  rcases Decidable.em (a < b) with h | h
  · exact h
  · exact absurd (List.le_antisymm ha (List.not_lt.1 h)) hb
theorem Sorted_val (w : World) (b n : Nat) (f : ByteArray → Option Ses) (h : MapIs w b n f) (hn : n ≤ 1000000) :
    Calls Try.prog 38 #[.func (.func 55) #[] #[.pointer (some ⟨w.heap.size, 0, none⟩)]] (w.alloc (.cells #[.map (some b)] 65)) fun e w' =>
      (∃ v ks, e = .returned v ∧ KeysL f ks ∧ ks.length ≤ n ∧ LR 1 encK w' v ks) ∧ Below (w.alloc (.cells #[.map (some b)] 65)).heap.size (w.alloc (.cells #[.map (some b)] 65)) w' := by
  obtain ⟨D, hown, hf⟩ := h
  have hsz := hown.size_le
  obtain ⟨hnd, hmem⟩ := str_nodup hown
  refine (callsIn_wide.1 (Try.slices_Sorted_keys_38_39 b n D RS w hown (by unfold maxLen; omega) (by omega))).mono ?_
  rintro e w' ⟨v, ss, he, hp, hrow, _, hb⟩
  refine ⟨⟨v, (ss.mergeSort leB).map (fun x => ⟨x.toArray⟩), he, ⟨?_, ?_⟩, ?_, ?_⟩, hb⟩
  · refine List.pairwise_map.2 ((sort_strict ss (hp.nodup_iff.2 hnd)).imp fun {a b} h => ?_)
    simpa [bl8] using h
  · intro k
    rw [← (hf k).1, ← hmem (bl8 k), ← hp.mem_iff, ← (List.mergeSort_perm ss leB).mem_iff, List.mem_map]
    constructor
    · rintro ⟨x, hx, rfl⟩
      simpa [bl8] using hx
    · intro hx
      exact ⟨bl8 k, hx, by simp [bl8]⟩
  · rw [List.length_map, List.length_mergeSort, hp.length_eq]
    obtain ⟨es, rfl, _⟩ := hown.entries str_key
    have : (strKeys (DataW.map es)).length = es.length := by show (es.map fun p => strOf p.1).length = _; rw [List.length_map]
    rw [this]
    exact hsz
  · have hl : ((ss.mergeSort leB).map (fun x => (⟨x.toArray⟩ : ByteArray))).length = ss.length := by rw [List.length_map, List.length_mergeSort]
    have hfm : ((ss.mergeSort leB).map (fun x => (⟨x.toArray⟩ : ByteArray))).flatMap encK = (ss.mergeSort leB).map encStr := by
      rw [List.flatMap_map]
      generalize ss.mergeSort leB = l
      induction l with
      | nil => rfl
      | cons a l ih => simp only [List.flatMap_cons, List.map_cons, ih]; rfl
    refine own_lr (k := 1) (enc := encK) (base := (w.alloc (.cells #[.map (some b)] 65)).heap.size) (ty := 9) (fun _ => rfl) ?_
    show w'.ownsRow _ _ _ _ _ _
    rw [hl, hfm]
    exact hrow
end Go.Proofs.Ytmbidannodelfaa.G
