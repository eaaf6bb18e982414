/- What an argument reads: numbers, texts, lists, and what holds them, as plain facts on the world, for any type. -/
import Derived.WalkKit
import Derived.ProofKit
import Derived.OpenShut
import Derived.ShutString
import Derived.ChangeOld
import Derived.Below
import Derived.SizedLaws
import Derived.Deep.Slices
namespace Go.Proofs.Ythpompgcnemanaa.Row
open Go.ChangeShapes Go.WideShapes Go.ChangeAt Go.RowKit
set_option linter.unusedVariables false

/-- the cells of a value of a type, with what they lead to -/
def opn (P : Program) (w : World) : Nat → TypeId → List Value → Prop
  | 0, _, _ => False
  | n + 1, t, cs => match P.underlying t with
    | some .bool => ∃ b, cs = [.bool b]
    | some (.int k) => ∃ z, cs = [.int k z] ∧ (Lit.int k z).wf = true
    | some (.float k) => ∃ b, cs = [.float k b] ∧ (Lit.float k b).wf = true
    | some .string => ∃ s : ByteArray, cs = [.string s] ∧ s.size ≤ 140737488351232
    | some (.slice e) => cs = [.slice none 0 0] ∨ ∃ (a : Addr) (len cap : Nat), cs = [.slice (some a) len cap] ∧ len ≤ cap ∧ cap * P.bytesOf e ≤ 140737488351232 ∧
        ∀ i, i < cap → ∃ cs', w.cells? 0 (a.add (i * P.cellsOf e)) (P.cellsOf e) = some cs' ∧ opn P w n e cs'
    | some (.struct fs) => cs.length = P.cellsOf t ∧ ∀ (i : Nat) (f : Field), fs[i]? = some f → opn P w n f.type ((cs.drop f.offset).take (P.cellsOf f.type))
    | some (.array m e) => cs.length = P.cellsOf t ∧ ∀ i, i < m → opn P w n e ((cs.drop (i * P.cellsOf e)).take (P.cellsOf e))
    | _ => True


section
variable {H : Type} {enc : TypeId × Value → H} {P : Program} {w : World} {held : Bool}

theorem weightsAll_mem {e : TypeId} : ∀ {l : List (DataW H)} {d : DataW H}, d ∈ l → ∀ n ∈ d.weights P e, n ∈ DataW.weightsAll P e l
  | _ :: l, d, h, n, hn => by
    rw [DataW.weightsAll, List.mem_append]
    rcases List.mem_cons.1 h with rfl | h
    · exact Or.inl hn
    · exact Or.inr (weightsAll_mem h n hn)
  | [], _, h, _, _ => by cases h

theorem opn_of_trod : ∀ (fuel : Nat) (t : TypeId) (cs : List Value) (x : DataW H × List MemPlace), DataW.trod enc P w 0 (fun _ => true) held fuel t cs = some x →
    (∀ n ∈ x.1.weights P t, n ≤ reachBytes) → opn P w fuel t cs := by
  intro fuel
  induction fuel with
  | zero => intro t cs x h; simp [DataW.trod] at h
  | succ n ih =>
    intro t cs x h hw
    unfold opn
    split
    · rename_i ht
      obtain ⟨b, hb, _⟩ := DataW.trod_bool ht h
      exact ⟨b, hb⟩
    · rename_i k ht
      obtain ⟨z, hz, _, hwf⟩ := DataW.trod_int ht h
      exact ⟨z, hz, hwf⟩
    · rename_i k ht
      unfold DataW.trod at h
      rw [ht] at h
      split at h <;> simp_all
    · rename_i ht
      obtain ⟨s, hs, hx, _⟩ := DataW.trod_string ht h
      refine ⟨s, hs, ?_⟩
      rw [hx] at hw
      have := hw s.data.toList.length (by simp [DataW.weights])
      exact this
    · rename_i e ht
      rcases DataW.trod_slice ht h with ⟨h0, _⟩ | ⟨a, len, cap, elems, rest, m, hn, hcs, hx, _, hl, hm, hlen, hel, hsp, _⟩
      · exact Or.inl h0
      · right
        obtain ⟨hrl, hrest⟩ := hsp rfl
        injection hn with hn
        subst hn
        rw [hx] at hw
        simp only [DataW.weights, ht] at hw
        refine ⟨a, len, cap, hcs, hl, ?_, ?_⟩
        · have := hw _ (List.mem_cons_self ..)
          simp only [List.length_map, hlen, hrl] at this
          rw [show len + (cap - len) = cap by omega] at this
          exact this
        · intro i hi
          by_cases hil : i < len
          · have h1 := hel i hil
            have h2 : elems[i]? = some elems[i] := List.getElem?_eq_getElem (by omega)
            rw [h2] at h1
            obtain ⟨cs', hc, ht'⟩ := Option.bind_eq_some_iff.1 h1
            refine ⟨cs', hc, ih e cs' _ ht' ?_⟩
            intro q hq
            refine hw q ?_
            refine List.mem_cons_of_mem _ (List.mem_append_left _ (weightsAll_mem ?_ q hq))
            exact List.mem_map_of_mem (List.getElem_mem _)
          · have h1 := hrest (i - len) (by omega)
            rw [show len + (i - len) = i by omega] at h1
            have h2 : rest[i - len]? = some rest[i - len] := List.getElem?_eq_getElem (by omega)
            rw [h2] at h1
            obtain ⟨cs', hc, ht'⟩ := Option.bind_eq_some_iff.1 h1
            refine ⟨cs', hc, ih e cs' _ ht' ?_⟩
            intro q hq
            refine hw q ?_
            refine List.mem_cons_of_mem _ (List.mem_append_right _ (weightsAll_mem ?_ q hq))
            exact List.mem_map_of_mem (List.getElem_mem _)
    · rename_i fs ht
      obtain ⟨xs, m, hn, hx, hl, hxl, hall⟩ := DataW.trod_struct ht h
      injection hn with hn
      subst hn
      refine ⟨hl, fun i f hf => ?_⟩
      have hi : i < fs.size := by
        rcases Nat.lt_or_ge i fs.size with h | h
        · exact h
        · rw [Array.getElem?_eq_none h] at hf; cases hf
      have h1 := hall i f hf
      have h2 : xs[i]? = some xs[i] := List.getElem?_eq_getElem (by omega)
      rw [h2] at h1
      refine ih _ _ _ h1 ?_
      intro q hq
      refine hw q ?_
      rw [hx]
      simp only [DataW.weights, ht]
      refine DataW.weights_mem_each (j := i) (t := f.type) (d := xs[i].1) ?_ ?_ q hq
      · rw [List.getElem?_map, Array.getElem?_toList, hf]; rfl
      · rw [List.getElem?_map, h2]; rfl
    · rename_i m e ht
      obtain ⟨xs, m', hn, hx, hl, hxl, hall⟩ := DataW.trod_array ht h
      injection hn with hn
      subst hn
      refine ⟨hl, fun i hi => ?_⟩
      have h1 := hall i hi
      have h2 : xs[i]? = some xs[i] := List.getElem?_eq_getElem (by omega)
      rw [h2] at h1
      refine ih _ _ _ h1 ?_
      intro q hq
      refine hw q ?_
      rw [hx]
      simp only [DataW.weights, ht]
      exact weightsAll_mem (List.mem_map_of_mem (List.getElem_mem _)) q hq
    · trivial
end

/-- an argument: what it reads, and its outer form -/
def Opn (P : Program) (w : World) (t : TypeId) (v : Value) : Prop := (∃ n, opn P w n t v.cells.toList) ∧ ∃ b, Value.okWide P w .any b t v

theorem opn_of_Trod {H : Type} {enc : TypeId × Value → H} {P : Program} {w : World} {held : Bool} {t : TypeId} {v : Value} {d : DataW H} {ps : List MemPlace} (h : DataW.Trod enc P w 0 (fun _ => true) held t v d ps)
    (hw : ∀ n ∈ d.weights P t, n ≤ reachBytes) {b : Nat} (hv : Value.okWide P w .any b t v) : Opn P w t v := by
  obtain ⟨m, hm⟩ := h
  exact ⟨⟨m, opn_of_trod m _ _ _ hm hw⟩, b, hv⟩

/-! what is opened, a step at a time -/
section
variable {P : Program} {w : World}
theorem opn_int {n : Nat} {t : TypeId} {cs : List Value} {k : IntKind} (h : opn P w n t cs) (ht : P.underlying t = some (.int k)) : ∃ z, cs = [.int k z] ∧ (Lit.int k z).wf = true := by
  cases n with
  | zero => cases h
  | succ n => unfold opn at h; rw [ht] at h; exact h
theorem opn_bool {n : Nat} {t : TypeId} {cs : List Value} (h : opn P w n t cs) (ht : P.underlying t = some .bool) : ∃ b, cs = [.bool b] := by
  cases n with
  | zero => cases h
  | succ n => unfold opn at h; rw [ht] at h; exact h
theorem opn_float {n : Nat} {t : TypeId} {cs : List Value} {k : FloatKind} (h : opn P w n t cs) (ht : P.underlying t = some (.float k)) : ∃ z, cs = [.float k z] ∧ (Lit.float k z).wf = true := by
  cases n with
  | zero => cases h
  | succ n => unfold opn at h; rw [ht] at h; exact h
theorem opn_string {n : Nat} {t : TypeId} {cs : List Value} (h : opn P w n t cs) (ht : P.underlying t = some .string) : ∃ s : ByteArray, cs = [.string s] ∧ s.size ≤ 140737488351232 := by
  cases n with
  | zero => cases h
  | succ n => unfold opn at h; rw [ht] at h; exact h
theorem opn_slice {n : Nat} {t e : TypeId} {cs : List Value} (h : opn P w n t cs) (ht : P.underlying t = some (.slice e)) : cs = [.slice none 0 0] ∨ ∃ (a : Addr) (len cap : Nat), cs = [.slice (some a) len cap] ∧ len ≤ cap ∧ cap * P.bytesOf e ≤ 140737488351232 ∧
        ∀ i, i < cap → ∃ cs', w.cells? 0 (a.add (i * P.cellsOf e)) (P.cellsOf e) = some cs' ∧ opn P w (n - 1) e cs' := by
  cases n with
  | zero => cases h
  | succ n => unfold opn at h; rw [ht] at h; exact h
theorem opn_struct {n : Nat} {t : TypeId} {cs : List Value} {fs : Array Field} (h : opn P w n t cs) (ht : P.underlying t = some (.struct fs)) : cs.length = P.cellsOf t ∧ ∀ (i : Nat) (f : Field), fs[i]? = some f → opn P w (n - 1) f.type ((cs.drop f.offset).take (P.cellsOf f.type)) := by
  cases n with
  | zero => cases h
  | succ n => unfold opn at h; rw [ht] at h; exact h
theorem opn_array {n m : Nat} {t e : TypeId} {cs : List Value} (h : opn P w n t cs) (ht : P.underlying t = some (.array m e)) : cs.length = P.cellsOf t ∧ ∀ i, i < m → opn P w (n - 1) e ((cs.drop (i * P.cellsOf e)).take (P.cellsOf e)) := by
  cases n with
  | zero => cases h
  | succ n => unfold opn at h; rw [ht] at h; exact h
end
end Go.Proofs.Ythpompgcnemanaa.Row
