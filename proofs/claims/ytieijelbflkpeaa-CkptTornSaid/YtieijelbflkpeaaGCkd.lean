/- What ends a reading: must; the deferred closure that recovers. -/
import Derived.Test.YtieijelbflkpeaaGCkE
import Derived.Test.YtieijelbflkpeaaGTail
import Derived.Defers
import Derived.Recover
namespace Go.Proofs.Ytieijelbflkpeaa.G
open Go.RowKit
set_option linter.unusedVariables false
set_option linter.unusedSimpArgs false

/-- the panic of a reading that is wrong -/
def wrongV : Value := .iface 61 (.agg #[])

theorem must_true (w : World) : Calls Try.prog 29 #[.bool true] w fun e w' => e = .returned (.tuple #[]) ∧ w = w' := by
  go_enter Try.func29, Try.ntmps29
  go_wp2_with fail
  first | exact ⟨rfl, rfl⟩ | (go_end0; exact ⟨rfl, rfl⟩) | (refine bodyPost_end (v := .tuple #[]) (by rw [results_none rfl]) rfl ⟨rfl, rfl⟩)

theorem must_false (w : World) : Calls Try.prog 29 #[.bool false] w fun e w' => e = .panicked [{ v := wrongV, recovered := false }] ∧ w = w' := by
  go_enter Try.func29, Try.ntmps29
  go_wp2_with fail
  exact ⟨rfl, rfl, rfl⟩

theorem lt_of_row {W : World} {g : Nat} {o : Obj} (h : W.heap[g]? = some o) : g < W.heap.size := by
  rcases Nat.lt_or_ge g W.heap.size with h1 | h1
  · exact h1
  · rw [Array.getElem?_eq_none h1] at h; cases h
theorem _root_.Go.RowKit.Below.setRow {B : Nat} {w W : World} (h : Below B w W) {g : Nat} (hg : B ≤ g) (cs : Array Value) : Below B w (W.setRow g cs) :=
  h.trans ⟨rfl, rfl, rfl, by simp, fun i hi => setRow_other _ _ _ _ (by omega)⟩
theorem store_whole {P : Program} (W : World) (g : Nat) (t : TypeId) (cur : Array Value) (vs : List Value) (hg : W.heap[g]? = some (.cells cur t (0, 0))) (hl : vs.length = cur.size) (h1 : ∀ v ∈ vs, v.oneCell' = true) :
    (storeCells ⟨g, 0, none⟩ vs).run P W = .ok () (W.setRow g vs.toArray) := by
  have h := run_storeCells_at P g 0 t vs 0 cur W hg (by omega) h1
  rw [h]
  congr 2
  rw [List.drop_of_length_le (by rw [Array.length_toList]; omega)]
  simp
def zeroCells : List Value := [.int .u64 0, .int .u32 0, .int .u64 0, .int .u64 0, .slice none 0 0, .slice none 0 0]
theorem zero_check (W : World) : (zeroValue 26).run Try.prog W = .ok (.agg #[.int .u64 0, .int .u32 0, .int .u64 0, .int .u64 0, .slice none 0 0, .slice none 0 0]) W := by kernel_rfl

set_option maxHeartbeats 1000000 in
/-- a frame that panics so: the results are laid anew -/
theorem close_panicking (C E : Nat) (a0 a1 a2 a3 a4 a5 : Value) (x : Int) (older : List PanicEntry) (w : World) (hne : C ≠ E) (hc : w.heap[C]? = some (.cells #[a0, a1, a2, a3, a4, a5] 26 (0, 0))) (he : w.heap[E]? = some (.cells #[.int .i64 x] 28 (0, 0))) (B : Nat) (hC : B ≤ C) (hE : B ≤ E) (hB : B ≤ w.heap.size) :
    CallsD Try.prog 28 #[.pointer (some ⟨C, 0, none⟩), .pointer (some ⟨E, 0, none⟩)] (.panicking ({ v := wrongV, recovered := false } :: older)) w fun e u' w' =>
      e = .returned (.tuple #[]) ∧ u' = .panicking ({ v := wrongV, recovered := true } :: older) ∧ Below B w w' ∧
      w'.heap[C]? = some (.cells #[.int .u64 0, .int .u32 0, .int .u64 0, .int .u64 0, .slice none 0 0, .slice none 0 0] 26 (0, 0)) ∧
      w'.heap[E]? = some (.cells #[.int .i64 5] 28 (0, 0)) := by
  have hta : ∀ W : World, (Instr.typeAssert wrongV 20 61 true).run Try.prog W = .ok (.tuple #[.agg #[], .bool true]) W := fun _ => by kernel_rfl
  obtain ⟨p, hp⟩ : ∃ p, p = wrongV := ⟨_, rfl⟩
  rw [← hp] at hta ⊢
  clear hp
  refine callsD_of_wpS Try.func28 rfl fun c₀ cs hu => ?_
  apply wpS_seq
  apply wpS_region
  simp [wpOpsS, go_sem, recoverD, hu, hta, Try.ntmps28, Exit.thenS]
  have hc' : (w.alloc (.cells #[] 61)).heap[C]? = some (.cells #[a0, a1, a2, a3, a4, a5] 26 (0, 0)) := (heap_alloc_old _ _ (lt_of_row hc)).trans hc
  have he' : (w.alloc (.cells #[] 61)).heap[E]? = some (.cells #[.int .i64 x] 28 (0, 0)) := (heap_alloc_old _ _ (lt_of_row he)).trans he
  have hb' : Below B w (w.alloc (.cells #[] 61)) := (Below.refl _ _).alloc hB _
  obtain ⟨W, hW⟩ : ∃ W, W = w.alloc (.cells #[] 61) := ⟨_, rfl⟩
  rw [← hW] at hc' he' hb' ⊢
  have HE := Lib.hid he'
  have hE2 : (W.setRow C #[.int .u64 0, .int .u32 0, .int .u64 0, .int .u64 0, .slice none 0 0, .slice none 0 0]).heap[E]? = some (.cells #[.int .i64 x] 28 (0, 0)) := (setRow_other _ _ _ _ (Ne.symm hne)).trans he'
  have hC2 := setRow_heap W C _ #[.int .u64 0, .int .u32 0, .int .u64 0, .int .u64 0, .slice none 0 0, .slice none 0 0] _ _ hc'
  have hb2 := hb'.setRow hC #[.int .u64 0, .int .u32 0, .int .u64 0, .int .u64 0, .slice none 0 0, .slice none 0 0]
  have HC := Lib.hid hc'
  have HE2 := Lib.hid hE2
  have HC2 := Lib.hid hC2
  have ce := (cell_of_row _ _ 0 _ _ _ hE2).trans (show _ = some (.int .i64 x) from rfl)
  have fe := frozen_of_row _ _ 0 _ _ hE2
  have hzc := zero_check
  clear hu hta hW hc' he' hc he hE2 hC2
  refine wpS_of_wp ?_
  have ht : (#[.pointer (some ⟨C, 0, none⟩), .pointer (some ⟨E, 0, none⟩)] ++ (((((((Array.replicate 9 undef).setIfInBounds 3 p).setIfInBounds 4 (Value.tuple #[Value.agg #[], Value.bool true])).setIfInBounds 2 (Value.tuple #[Value.agg #[], Value.bool true])).setIfInBounds 5 (Value.agg #[])).setIfInBounds 6 (Value.bool true)).setIfInBounds 0 (Value.pointer (some ⟨w.heap.size, 0, none⟩))).setIfInBounds 1 (Value.bool true) : Array Value) = #[.pointer (some ⟨C, 0, none⟩), .pointer (some ⟨E, 0, none⟩), .pointer (some ⟨w.heap.size, 0, none⟩), .bool true, .tuple #[.agg #[], .bool true], p, .tuple #[.agg #[], .bool true], .agg #[], .bool true, undef, undef] := by
    simp [show Array.replicate 9 undef = #[undef, undef, undef, undef, undef, undef, undef, undef, undef] from rfl]
  rw [ht]
  clear ht
  go_wp2_with (refine wpList_store_row rfl 26 _ _ rfl C #[.int .u64 0, .int .u32 0, .int .u64 0, .int .u64 0, .slice none 0 0, .slice none 0 0] rfl rfl _ _ HC.out (by kernel_rfl) rfl (by kernel_rfl) ?_)
  refine ⟨rfl, _, rfl, .tuple #[], by rw [results_none rfl], rfl, rfl, hb2.setCell hE _, ?_, ?_⟩
  · rw [heap_setCell_other _ _ _ _ (by exact hne)]; exact HC2.out
  · rw [heap_setCell_same _ _ _ _ _ _ HE2.out]; rfl

set_option maxHeartbeats 1000000 in
/-- a frame that returns: nothing is done -/
theorem close_idle (C E : Nat) (w : World) (B : Nat) (hB : B ≤ w.heap.size) :
    CallsD Try.prog 28 #[.pointer (some ⟨C, 0, none⟩), .pointer (some ⟨E, 0, none⟩)] .returning w fun e u' w' =>
      e = .returned (.tuple #[]) ∧ u' = .returning ∧ w' = w.alloc (.cells #[] 61) := by
  have hta : ∀ W : World, (Instr.typeAssert .nilIface 20 61 true).run Try.prog W = .ok (.tuple #[.agg #[], .bool false]) W := fun _ => by kernel_rfl
  refine callsD_of_wpS Try.func28 rfl fun c₀ cs hu => ?_
  apply wpS_seq
  apply wpS_region
  simp [wpOpsS, go_sem, recoverD, hu, hta, Try.ntmps28, Exit.thenS]
  have ht : (#[.pointer (some ⟨C, 0, none⟩), .pointer (some ⟨E, 0, none⟩)] ++ (((((((Array.replicate 9 undef).setIfInBounds 3 Value.nilIface).setIfInBounds 4 (Value.tuple #[Value.agg #[], Value.bool false])).setIfInBounds 2 (Value.tuple #[Value.agg #[], Value.bool false])).setIfInBounds 5 (Value.agg #[])).setIfInBounds 6 (Value.bool false)).setIfInBounds 0 (Value.pointer (some ⟨w.heap.size, 0, none⟩))).setIfInBounds 1 (Value.bool false) : Array Value) = #[.pointer (some ⟨C, 0, none⟩), .pointer (some ⟨E, 0, none⟩), .pointer (some ⟨w.heap.size, 0, none⟩), .bool false, .tuple #[.agg #[], .bool false], .nilIface, .tuple #[.agg #[], .bool false], .agg #[], .bool false, undef, undef] := by
    simp [show Array.replicate 9 undef = #[undef, undef, undef, undef, undef, undef, undef, undef, undef] from rfl]
  rw [ht]
  clear ht hta
  refine wpS_of_wp ?_
  go_wp2_with fail
  cases c₀
  refine ⟨rfl, _, rfl, .tuple #[], by rw [results_none rfl], rfl, hu, rfl⟩
end Go.Proofs.Ytieijelbflkpeaa.G
