/- The same acts? -/
import Derived.Test.YtjkiofgllmjkcaaS2
import Derived.Test.YtjkiofgllmjkcaaGFast
import Derived.BigQuiet
import Derived.Deep.RegionHeld
namespace Go.Proofs.Ytjkiofgllmjkcaa.G
open Go.RowKit
set_option linter.unusedVariables false
set_option linter.unusedSimpArgs false
theorem bitsS (x : Nat) (W : World) : (callFunc 23 #[.float .f64 x]).run Try.prog W = .ok (.value (.int .u64 (x : Int))) W := by kernel_rfl
theorem fromS (x : Nat) (W : World) : (callFunc 22 #[.int .u64 (x : Int)]).run Try.prog W = .ok (.value (.float .f64 x)) W := by kernel_rfl
theorem lt_of_rowS {W : World} {g : Nat} {o : Obj} (h : W.heap[g]? = some o) : g < W.heap.size := by
  rcases Nat.lt_or_ge g W.heap.size with h1 | h1
  · exact h1
  · rw [Array.getElem?_eq_none h1] at h; cases h
theorem cells10 {W : World} {b : Nat} {a0 a1 a2 a3 a4 a5 a6 a7 a8 a9 : Value} {ty : TypeId} (h : W.heap[b]? = some (.cells #[a0, a1, a2, a3, a4, a5, a6, a7, a8, a9] ty (0, 0))) :
    W.cell? ⟨b, 0, none⟩ = some a0 ∧ W.cell? ⟨b, 1, none⟩ = some a1 ∧ W.cell? ⟨b, 2, none⟩ = some a2 ∧ W.cell? ⟨b, 3, none⟩ = some a3 ∧ W.cell? ⟨b, 4, none⟩ = some a4 ∧ W.cell? ⟨b, 5, none⟩ = some a5 ∧ W.cell? ⟨b, 6, none⟩ = some a6 ∧ W.cell? ⟨b, 7, none⟩ = some a7 ∧ W.cell? ⟨b, 8, none⟩ = some a8 ∧ W.cell? ⟨b, 9, none⟩ = some a9 :=
  ⟨(cell_of_row _ _ 0 _ _ _ h).trans rfl, (cell_of_row _ _ 1 _ _ _ h).trans rfl, (cell_of_row _ _ 2 _ _ _ h).trans rfl, (cell_of_row _ _ 3 _ _ _ h).trans rfl, (cell_of_row _ _ 4 _ _ _ h).trans rfl, (cell_of_row _ _ 5 _ _ _ h).trans rfl, (cell_of_row _ _ 6 _ _ _ h).trans rfl, (cell_of_row _ _ 7 _ _ _ h).trans rfl, (cell_of_row _ _ 8 _ _ _ h).trans rfl, (cell_of_row _ _ 9 _ _ _ h).trans rfl⟩
theorem cellsR {W : World} {b : Nat} {a0 a1 a2 a3 : Value} {ty : TypeId} (h : W.heap[b]? = some (.cells #[a0, a1, a2, a3] ty (0, 0))) :
    W.cell? ⟨b, 0, none⟩ = some a0 ∧ W.cell? ⟨b, 1, none⟩ = some a1 ∧ W.cell? ⟨b, 2, none⟩ = some a2 ∧ W.cell? ⟨b, 3, none⟩ = some a3 :=
  ⟨(cell_of_row _ _ 0 _ _ _ h).trans rfl, (cell_of_row _ _ 1 _ _ _ h).trans rfl, (cell_of_row _ _ 2 _ _ _ h).trans rfl, (cell_of_row _ _ 3 _ _ _ h).trans rfl⟩

theorem two_rows (Wd : World) (z rx ry : Array Value) (ty : TypeId) (X Y : Nat) (h : (X = Wd.heap.size ∧ Y = Wd.heap.size + 1) ∨ (X = Wd.heap.size + 1 ∧ Y = Wd.heap.size)) :
    ((Wd.alloc (.cells z ty)).alloc (.cells z ty)).heap[X]? = some (.cells z ty (0, 0)) ∧ (((Wd.alloc (.cells z ty)).alloc (.cells z ty)).setRow X rx).heap[Y]? = some (.cells z ty (0, 0)) ∧
    ((((Wd.alloc (.cells z ty)).alloc (.cells z ty)).setRow X rx).setRow Y ry).heap[X]? = some (.cells rx ty (0, 0)) ∧ ((((Wd.alloc (.cells z ty)).alloc (.cells z ty)).setRow X rx).setRow Y ry).heap[Y]? = some (.cells ry ty (0, 0)) ∧
    ∀ B w, Below B w Wd → B ≤ Wd.heap.size → Below B w ((Wd.alloc (.cells z ty)).alloc (.cells z ty)) ∧ Below B w (((Wd.alloc (.cells z ty)).alloc (.cells z ty)).setRow X rx) ∧ Below B w ((((Wd.alloc (.cells z ty)).alloc (.cells z ty)).setRow X rx).setRow Y ry) := by
  obtain ⟨n1, n2, n3⟩ := two_newA Wd (.cells z ty) (.cells z ty)
  obtain ⟨V, hV⟩ : ∃ V, V = (Wd.alloc (.cells z ty)).alloc (.cells z ty) := ⟨_, rfl⟩
  rw [← hV] at n1 n2 n3 ⊢
  have hXY : X ≠ Y := by omega
  have hx : V.heap[X]? = some (.cells z ty (0, 0)) := by rcases h with ⟨rfl, rfl⟩ | ⟨rfl, rfl⟩ <;> assumption
  have hy : V.heap[Y]? = some (.cells z ty (0, 0)) := by rcases h with ⟨rfl, rfl⟩ | ⟨rfl, rfl⟩ <;> assumption
  have hy2 : (V.setRow X rx).heap[Y]? = some (.cells z ty (0, 0)) := (setRow_other _ _ _ _ (fun e => hXY e.symm)).trans hy
  refine ⟨hx, hy2, (setRow_other _ _ _ _ hXY).trans (setRow_heap _ _ _ _ _ _ hx), setRow_heap _ _ _ _ _ _ hy2, fun B w hb hB => ?_⟩
  have b1 : Below B w V := by rw [hV]; exact (hb.alloc hB _).alloc (by show B ≤ (Wd.heap.push _).size; rw [Array.size_push]; omega) _
  have b2 := below_setRow b1 (show B ≤ X by omega) rx
  exact ⟨b1, b2, below_setRow b2 (show B ≤ Y by omega) ry⟩
end Go.Proofs.Ytjkiofgllmjkcaa.G
