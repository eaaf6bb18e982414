/- An act with just what its kind names. -/
import Derived.Test.YtjkiofgllmjkcaaS1
import Derived.Test.YtjkiofgllmjkcaaGTail
import Derived.Deep.WholeRow
import Derived.Laws.Tables
import Derived.Laws.CopyOwn
namespace Go.Proofs.Ytjkiofgllmjkcaa.G
open Go.RowKit
set_option linter.unusedVariables false
set_option linter.unusedSimpArgs false

theorem two_newA (w : World) (o1 o2 : Obj) : ((w.alloc o1).alloc o2).heap[w.heap.size]? = some o1 ∧ ((w.alloc o1).alloc o2).heap[w.heap.size + 1]? = some o2 ∧ Below w.heap.size w ((w.alloc o1).alloc o2) := by
  have hs : (w.alloc o1).heap.size = w.heap.size + 1 := by show (w.heap.push o1).size = _; rw [Array.size_push]
  have hn2 := heap_alloc_new (w.alloc o1) o2
  rw [hs] at hn2
  refine ⟨?_, hn2, ((Below.refl _ _).alloc (Nat.le_refl _) _).alloc (by rw [hs]; omega) _⟩
  rw [heap_alloc_old _ _ (by rw [hs]; omega)]; exact heap_alloc_new w o1
set_option maxRecDepth 100000 in
theorem only_0 (k rk p to pl : Int) (i v : ByteArray) (t n m cap : Nat) (oa : Option Addr) (w : World) (h0 : (k == 0) = true) :
    Calls Try.prog 33 #[.agg #[.int .i64 k, .int .i64 rk, .string i, .string v, .float .f64 t, .int .i64 p, .int .u64 n, .slice oa m cap, .int .i64 to, .int .i64 pl]] w fun e w' => e = .returned (.agg #[.int .i64 0, .int .i64 rk, .string i, .string v, .float .f64 t, .int .i64 p, .int .u64 0, .slice none 0 0, .int .i64 0, .int .i64 0]) ∧ Below w.heap.size w w' := by
  obtain ⟨n1, n2, n3⟩ := two_newA w (.cells #[.int .i64 k, .int .i64 rk, .string i, .string v, .float .f64 t, .int .i64 p, .int .u64 n, .slice oa m cap, .int .i64 to, .int .i64 pl] 29) (.cells #[.int .i64 0, .int .i64 0, .string ByteArray.empty, .string ByteArray.empty, .float .f64 0, .int .i64 0, .int .u64 0, .slice none 0 0, .int .i64 0, .int .i64 0] 29)
  have N2 := Lib.hid n2
  have N3 := Lib.hid (below_setRow (g := w.heap.size + 1) n3 (Nat.le_add_right _ _) #[.int .i64 0, .int .i64 rk, .string i, .string v, .float .f64 t, .int .i64 p, .int .u64 0, .slice none 0 0, .int .i64 0, .int .i64 0])
  have ONE : Hid ((#[.int .i64 0, .int .i64 rk, .string i, .string v, .float .f64 t, .int .i64 p, .int .u64 0, .slice none 0 0, .int .i64 0, .int .i64 0] : Array Value).all (·.oneCell') = true) := Lib.hid (by simp [Value.oneCell'])
  have R2 := Lib.hid (setRow_heap _ _ _ #[.int .i64 0, .int .i64 rk, .string i, .string v, .float .f64 t, .int .i64 p, .int .u64 0, .slice none 0 0, .int .i64 0, .int .i64 0] _ _ n2)
  clear n1 n2 n3
  go_enter Try.func33, Try.ntmps33
  go_wp2_with (refine wpList_store_row rfl 29 _ _ rfl (w.heap.size + 1) #[.int .i64 0, .int .i64 rk, .string i, .string v, .float .f64 t, .int .i64 p, .int .u64 0, .slice none 0 0, .int .i64 0, .int .i64 0] rfl rfl _ _ N2.out (by kernel_rfl) rfl ONE.out ?_)
  refine bodyPost_ret (v := .agg #[.int .i64 0, .int .i64 rk, .string i, .string v, .float .f64 t, .int .i64 p, .int .u64 0, .slice none 0 0, .int .i64 0, .int .i64 0]) ?_ rfl ⟨rfl, N3.out⟩
  exact results_cell_row (p := 2) (ty := 29) rfl _ _ (w.heap.size + 1) 29 _ (0, 0) _ rfl R2.out Try.underlying29 rfl (by kernel_rfl)

set_option maxRecDepth 100000 in
theorem only_1 (k rk p to pl : Int) (i v : ByteArray) (t n m cap : Nat) (oa : Option Addr) (w : World) (h0 : (k == 0) = false) (h1 : (k == 1) = true) :
    Calls Try.prog 33 #[.agg #[.int .i64 k, .int .i64 rk, .string i, .string v, .float .f64 t, .int .i64 p, .int .u64 n, .slice oa m cap, .int .i64 to, .int .i64 pl]] w fun e w' => e = .returned (.agg #[.int .i64 k, .int .i64 0, .string ByteArray.empty, .string ByteArray.empty, .float .f64 0, .int .i64 0, .int .u64 n, .slice none 0 0, .int .i64 0, .int .i64 0]) ∧ Below w.heap.size w w' := by
  obtain ⟨n1, n2, n3⟩ := two_newA w (.cells #[.int .i64 k, .int .i64 rk, .string i, .string v, .float .f64 t, .int .i64 p, .int .u64 n, .slice oa m cap, .int .i64 to, .int .i64 pl] 29) (.cells #[.int .i64 0, .int .i64 0, .string ByteArray.empty, .string ByteArray.empty, .float .f64 0, .int .i64 0, .int .u64 0, .slice none 0 0, .int .i64 0, .int .i64 0] 29)
  have N2 := Lib.hid n2
  have N3 := Lib.hid (below_setRow (g := w.heap.size + 1) n3 (Nat.le_add_right _ _) #[.int .i64 k, .int .i64 0, .string ByteArray.empty, .string ByteArray.empty, .float .f64 0, .int .i64 0, .int .u64 n, .slice none 0 0, .int .i64 0, .int .i64 0])
  have ONE : Hid ((#[.int .i64 k, .int .i64 0, .string ByteArray.empty, .string ByteArray.empty, .float .f64 0, .int .i64 0, .int .u64 n, .slice none 0 0, .int .i64 0, .int .i64 0] : Array Value).all (·.oneCell') = true) := Lib.hid (by simp [Value.oneCell'])
  have R2 := Lib.hid (setRow_heap _ _ _ #[.int .i64 k, .int .i64 0, .string ByteArray.empty, .string ByteArray.empty, .float .f64 0, .int .i64 0, .int .u64 n, .slice none 0 0, .int .i64 0, .int .i64 0] _ _ n2)
  clear n1 n2 n3
  go_enter Try.func33, Try.ntmps33
  go_wp2_with (refine wpList_store_row rfl 29 _ _ rfl (w.heap.size + 1) #[.int .i64 k, .int .i64 0, .string ByteArray.empty, .string ByteArray.empty, .float .f64 0, .int .i64 0, .int .u64 n, .slice none 0 0, .int .i64 0, .int .i64 0] rfl rfl _ _ N2.out (by kernel_rfl) rfl ONE.out ?_)
  refine bodyPost_ret (v := .agg #[.int .i64 k, .int .i64 0, .string ByteArray.empty, .string ByteArray.empty, .float .f64 0, .int .i64 0, .int .u64 n, .slice none 0 0, .int .i64 0, .int .i64 0]) ?_ rfl ⟨rfl, N3.out⟩
  exact results_cell_row (p := 2) (ty := 29) rfl _ _ (w.heap.size + 1) 29 _ (0, 0) _ rfl R2.out Try.underlying29 rfl (by kernel_rfl)

set_option maxRecDepth 100000 in
theorem only_2 (k rk p to pl : Int) (i v : ByteArray) (t n m cap : Nat) (oa : Option Addr) (w : World) (h0 : (k == 0) = false) (h1 : (k == 1) = false) (h2 : (k == 2) = true) :
    Calls Try.prog 33 #[.agg #[.int .i64 k, .int .i64 rk, .string i, .string v, .float .f64 t, .int .i64 p, .int .u64 n, .slice oa m cap, .int .i64 to, .int .i64 pl]] w fun e w' => e = .returned (.agg #[.int .i64 k, .int .i64 0, .string ByteArray.empty, .string ByteArray.empty, .float .f64 0, .int .i64 0, .int .u64 n, .slice none 0 0, .int .i64 0, .int .i64 0]) ∧ Below w.heap.size w w' := by
  obtain ⟨n1, n2, n3⟩ := two_newA w (.cells #[.int .i64 k, .int .i64 rk, .string i, .string v, .float .f64 t, .int .i64 p, .int .u64 n, .slice oa m cap, .int .i64 to, .int .i64 pl] 29) (.cells #[.int .i64 0, .int .i64 0, .string ByteArray.empty, .string ByteArray.empty, .float .f64 0, .int .i64 0, .int .u64 0, .slice none 0 0, .int .i64 0, .int .i64 0] 29)
  have N2 := Lib.hid n2
  have N3 := Lib.hid (below_setRow (g := w.heap.size + 1) n3 (Nat.le_add_right _ _) #[.int .i64 k, .int .i64 0, .string ByteArray.empty, .string ByteArray.empty, .float .f64 0, .int .i64 0, .int .u64 n, .slice none 0 0, .int .i64 0, .int .i64 0])
  have ONE : Hid ((#[.int .i64 k, .int .i64 0, .string ByteArray.empty, .string ByteArray.empty, .float .f64 0, .int .i64 0, .int .u64 n, .slice none 0 0, .int .i64 0, .int .i64 0] : Array Value).all (·.oneCell') = true) := Lib.hid (by simp [Value.oneCell'])
  have R2 := Lib.hid (setRow_heap _ _ _ #[.int .i64 k, .int .i64 0, .string ByteArray.empty, .string ByteArray.empty, .float .f64 0, .int .i64 0, .int .u64 n, .slice none 0 0, .int .i64 0, .int .i64 0] _ _ n2)
  clear n1 n2 n3
  go_enter Try.func33, Try.ntmps33
  go_wp2_with (refine wpList_store_row rfl 29 _ _ rfl (w.heap.size + 1) #[.int .i64 k, .int .i64 0, .string ByteArray.empty, .string ByteArray.empty, .float .f64 0, .int .i64 0, .int .u64 n, .slice none 0 0, .int .i64 0, .int .i64 0] rfl rfl _ _ N2.out (by kernel_rfl) rfl ONE.out ?_)
  refine bodyPost_ret (v := .agg #[.int .i64 k, .int .i64 0, .string ByteArray.empty, .string ByteArray.empty, .float .f64 0, .int .i64 0, .int .u64 n, .slice none 0 0, .int .i64 0, .int .i64 0]) ?_ rfl ⟨rfl, N3.out⟩
  exact results_cell_row (p := 2) (ty := 29) rfl _ _ (w.heap.size + 1) 29 _ (0, 0) _ rfl R2.out Try.underlying29 rfl (by kernel_rfl)

set_option maxRecDepth 100000 in
theorem only_4 (k rk p to pl : Int) (i v : ByteArray) (t n m cap : Nat) (oa : Option Addr) (w : World) (h0 : (k == 0) = false) (h1 : (k == 1) = false) (h2 : (k == 2) = false) (h4 : (k == 4) = true) :
    Calls Try.prog 33 #[.agg #[.int .i64 k, .int .i64 rk, .string i, .string v, .float .f64 t, .int .i64 p, .int .u64 n, .slice oa m cap, .int .i64 to, .int .i64 pl]] w fun e w' => e = .returned (.agg #[.int .i64 k, .int .i64 0, .string ByteArray.empty, .string ByteArray.empty, .float .f64 0, .int .i64 0, .int .u64 n, .slice none 0 0, .int .i64 0, .int .i64 0]) ∧ Below w.heap.size w w' := by
  obtain ⟨n1, n2, n3⟩ := two_newA w (.cells #[.int .i64 k, .int .i64 rk, .string i, .string v, .float .f64 t, .int .i64 p, .int .u64 n, .slice oa m cap, .int .i64 to, .int .i64 pl] 29) (.cells #[.int .i64 0, .int .i64 0, .string ByteArray.empty, .string ByteArray.empty, .float .f64 0, .int .i64 0, .int .u64 0, .slice none 0 0, .int .i64 0, .int .i64 0] 29)
  have N2 := Lib.hid n2
  have N3 := Lib.hid (below_setRow (g := w.heap.size + 1) n3 (Nat.le_add_right _ _) #[.int .i64 k, .int .i64 0, .string ByteArray.empty, .string ByteArray.empty, .float .f64 0, .int .i64 0, .int .u64 n, .slice none 0 0, .int .i64 0, .int .i64 0])
  have ONE : Hid ((#[.int .i64 k, .int .i64 0, .string ByteArray.empty, .string ByteArray.empty, .float .f64 0, .int .i64 0, .int .u64 n, .slice none 0 0, .int .i64 0, .int .i64 0] : Array Value).all (·.oneCell') = true) := Lib.hid (by simp [Value.oneCell'])
  have R2 := Lib.hid (setRow_heap _ _ _ #[.int .i64 k, .int .i64 0, .string ByteArray.empty, .string ByteArray.empty, .float .f64 0, .int .i64 0, .int .u64 n, .slice none 0 0, .int .i64 0, .int .i64 0] _ _ n2)
  clear n1 n2 n3
  go_enter Try.func33, Try.ntmps33
  go_wp2_with (refine wpList_store_row rfl 29 _ _ rfl (w.heap.size + 1) #[.int .i64 k, .int .i64 0, .string ByteArray.empty, .string ByteArray.empty, .float .f64 0, .int .i64 0, .int .u64 n, .slice none 0 0, .int .i64 0, .int .i64 0] rfl rfl _ _ N2.out (by kernel_rfl) rfl ONE.out ?_)
  refine bodyPost_ret (v := .agg #[.int .i64 k, .int .i64 0, .string ByteArray.empty, .string ByteArray.empty, .float .f64 0, .int .i64 0, .int .u64 n, .slice none 0 0, .int .i64 0, .int .i64 0]) ?_ rfl ⟨rfl, N3.out⟩
  exact results_cell_row (p := 2) (ty := 29) rfl _ _ (w.heap.size + 1) 29 _ (0, 0) _ rfl R2.out Try.underlying29 rfl (by kernel_rfl)

set_option maxRecDepth 100000 in
theorem only_5 (k rk p to pl : Int) (i v : ByteArray) (t n m cap : Nat) (oa : Option Addr) (w : World) (h0 : (k == 0) = false) (h1 : (k == 1) = false) (h2 : (k == 2) = false) (h4 : (k == 4) = false) (h5 : (k == 5) = true) :
    Calls Try.prog 33 #[.agg #[.int .i64 k, .int .i64 rk, .string i, .string v, .float .f64 t, .int .i64 p, .int .u64 n, .slice oa m cap, .int .i64 to, .int .i64 pl]] w fun e w' => e = .returned (.agg #[.int .i64 5, .int .i64 0, .string ByteArray.empty, .string ByteArray.empty, .float .f64 0, .int .i64 0, .int .u64 n, .slice oa m cap, .int .i64 to, .int .i64 pl]) ∧ Below w.heap.size w w' := by
  obtain ⟨n1, n2, n3⟩ := two_newA w (.cells #[.int .i64 k, .int .i64 rk, .string i, .string v, .float .f64 t, .int .i64 p, .int .u64 n, .slice oa m cap, .int .i64 to, .int .i64 pl] 29) (.cells #[.int .i64 0, .int .i64 0, .string ByteArray.empty, .string ByteArray.empty, .float .f64 0, .int .i64 0, .int .u64 0, .slice none 0 0, .int .i64 0, .int .i64 0] 29)
  have N2 := Lib.hid n2
  have N3 := Lib.hid (below_setRow (g := w.heap.size + 1) n3 (Nat.le_add_right _ _) #[.int .i64 5, .int .i64 0, .string ByteArray.empty, .string ByteArray.empty, .float .f64 0, .int .i64 0, .int .u64 n, .slice oa m cap, .int .i64 to, .int .i64 pl])
  have ONE : Hid ((#[.int .i64 5, .int .i64 0, .string ByteArray.empty, .string ByteArray.empty, .float .f64 0, .int .i64 0, .int .u64 n, .slice oa m cap, .int .i64 to, .int .i64 pl] : Array Value).all (·.oneCell') = true) := Lib.hid (by simp [Value.oneCell'])
  have R2 := Lib.hid (setRow_heap _ _ _ #[.int .i64 5, .int .i64 0, .string ByteArray.empty, .string ByteArray.empty, .float .f64 0, .int .i64 0, .int .u64 n, .slice oa m cap, .int .i64 to, .int .i64 pl] _ _ n2)
  clear n1 n2 n3
  go_enter Try.func33, Try.ntmps33
  go_wp2_with (refine wpList_store_row rfl 29 _ _ rfl (w.heap.size + 1) #[.int .i64 5, .int .i64 0, .string ByteArray.empty, .string ByteArray.empty, .float .f64 0, .int .i64 0, .int .u64 n, .slice oa m cap, .int .i64 to, .int .i64 pl] rfl rfl _ _ N2.out (by kernel_rfl) rfl ONE.out ?_)
  refine bodyPost_ret (v := .agg #[.int .i64 5, .int .i64 0, .string ByteArray.empty, .string ByteArray.empty, .float .f64 0, .int .i64 0, .int .u64 n, .slice oa m cap, .int .i64 to, .int .i64 pl]) ?_ rfl ⟨rfl, N3.out⟩
  exact results_cell_row (p := 2) (ty := 29) rfl _ _ (w.heap.size + 1) 29 _ (0, 0) _ rfl R2.out Try.underlying29 rfl (by kernel_rfl)

set_option maxRecDepth 100000 in
theorem only_x (k rk p to pl : Int) (i v : ByteArray) (t n m cap : Nat) (oa : Option Addr) (w : World) (h0 : (k == 0) = false) (h1 : (k == 1) = false) (h2 : (k == 2) = false) (h4 : (k == 4) = false) (h5 : (k == 5) = false) :
    Calls Try.prog 33 #[.agg #[.int .i64 k, .int .i64 rk, .string i, .string v, .float .f64 t, .int .i64 p, .int .u64 n, .slice oa m cap, .int .i64 to, .int .i64 pl]] w fun e w' => e = .returned (.agg #[.int .i64 k, .int .i64 0, .string ByteArray.empty, .string ByteArray.empty, .float .f64 0, .int .i64 0, .int .u64 0, .slice none 0 0, .int .i64 0, .int .i64 0]) ∧ Below w.heap.size w w' := by
  obtain ⟨n1, n2, n3⟩ := two_newA w (.cells #[.int .i64 k, .int .i64 rk, .string i, .string v, .float .f64 t, .int .i64 p, .int .u64 n, .slice oa m cap, .int .i64 to, .int .i64 pl] 29) (.cells #[.int .i64 0, .int .i64 0, .string ByteArray.empty, .string ByteArray.empty, .float .f64 0, .int .i64 0, .int .u64 0, .slice none 0 0, .int .i64 0, .int .i64 0] 29)
  have N2 := Lib.hid n2
  have N3 := Lib.hid (below_setRow (g := w.heap.size + 1) n3 (Nat.le_add_right _ _) #[.int .i64 k, .int .i64 0, .string ByteArray.empty, .string ByteArray.empty, .float .f64 0, .int .i64 0, .int .u64 0, .slice none 0 0, .int .i64 0, .int .i64 0])
  have ONE : Hid ((#[.int .i64 k, .int .i64 0, .string ByteArray.empty, .string ByteArray.empty, .float .f64 0, .int .i64 0, .int .u64 0, .slice none 0 0, .int .i64 0, .int .i64 0] : Array Value).all (·.oneCell') = true) := Lib.hid (by simp [Value.oneCell'])
  have R2 := Lib.hid (setRow_heap _ _ _ #[.int .i64 k, .int .i64 0, .string ByteArray.empty, .string ByteArray.empty, .float .f64 0, .int .i64 0, .int .u64 0, .slice none 0 0, .int .i64 0, .int .i64 0] _ _ n2)
  clear n1 n2 n3
  go_enter Try.func33, Try.ntmps33
  go_wp2_with (refine wpList_store_row rfl 29 _ _ rfl (w.heap.size + 1) #[.int .i64 k, .int .i64 0, .string ByteArray.empty, .string ByteArray.empty, .float .f64 0, .int .i64 0, .int .u64 0, .slice none 0 0, .int .i64 0, .int .i64 0] rfl rfl _ _ N2.out (by kernel_rfl) rfl ONE.out ?_)
  refine bodyPost_ret (v := .agg #[.int .i64 k, .int .i64 0, .string ByteArray.empty, .string ByteArray.empty, .float .f64 0, .int .i64 0, .int .u64 0, .slice none 0 0, .int .i64 0, .int .i64 0]) ?_ rfl ⟨rfl, N3.out⟩
  exact results_cell_row (p := 2) (ty := 29) rfl _ _ (w.heap.size + 1) 29 _ (0, 0) _ rfl R2.out Try.underlying29 rfl (by kernel_rfl)

theorem beqI (a b : Int) : ((a == b) = true ∧ a = b) ∨ ((a == b) = false ∧ a ≠ b) := by
  by_cases h : a = b
  · exact Or.inl ⟨beq_iff_eq.2 h, h⟩
  · exact Or.inr ⟨beq_eq_false_iff_ne.2 h, h⟩
def Ac.vk (a : Ac) (v : Value) : Value := if a.kind = 5 then v else .slice none 0 0
theorem only_val (a : Ac) (oa : Option Addr) (m cap : Nat) (w : World) :
    Calls Try.prog 33 #[.agg (a.row (.slice oa m cap))] w fun e w' => e = .returned (.agg (a.only.row (a.vk (.slice oa m cap)))) ∧ Below w.heap.size w w' := by
  obtain ⟨k, rk, i, v, t, p, n, l, to, pl⟩ := a
  unfold Ac.only Ac.vk Ac.row
  show Calls Try.prog 33 #[.agg #[.int .i64 k, .int .i64 rk, .string i, .string v, .float .f64 t, .int .i64 p, .int .u64 n, .slice oa m cap, .int .i64 to, .int .i64 pl]] w _
  simp only
  rcases beqI k 0 with ⟨h0, e0⟩ | ⟨h0, e0⟩
  · rw [if_pos e0, if_neg (by omega)]
    exact only_0 k rk p to pl i v t n m cap oa w h0
  rw [if_neg e0]
  rcases beqI k 1 with ⟨h1, e1⟩ | ⟨h1, e1⟩
  · rw [if_pos (Or.inl e1), if_neg (by omega)]
    exact only_1 k rk p to pl i v t n m cap oa w h0 h1
  rcases beqI k 2 with ⟨h2, e2⟩ | ⟨h2, e2⟩
  · rw [if_pos (Or.inr (Or.inl e2)), if_neg (by omega)]
    exact only_2 k rk p to pl i v t n m cap oa w h0 h1 h2
  rcases beqI k 4 with ⟨h4, e4⟩ | ⟨h4, e4⟩
  · rw [if_pos (Or.inr (Or.inr e4)), if_neg (by omega)]
    exact only_4 k rk p to pl i v t n m cap oa w h0 h1 h2 h4
  rw [if_neg (by omega)]
  rcases beqI k 5 with ⟨h5, e5⟩ | ⟨h5, e5⟩
  · rw [if_pos e5, if_pos e5]
    exact only_5 k rk p to pl i v t n m cap oa w h0 h1 h2 h4 h5
  · rw [if_neg e5, if_neg e5]
    exact only_x k rk p to pl i v t n m cap oa w h0 h1 h2 h4 h5
theorem Sb.only {w : World} {v : Value} {a : Ac} (h : Sb w v a.keep) : Sb w (a.vk v) a.only.keep := by
  unfold Ac.vk
  by_cases e : a.kind = 5
  · rw [if_pos e]
    have : a.only.keep = a.keep := by unfold Ac.only; rw [if_neg (by omega), if_neg (by omega), if_pos e]
    rw [this]; exact h
  · rw [if_neg e]
    have : a.only.keep = [] := by
      unfold Ac.only
      by_cases h0 : a.kind = 0
      · rw [if_pos h0]; rfl
      rw [if_neg h0]
      by_cases h1 : a.kind = 1 ∨ a.kind = 2 ∨ a.kind = 4
      · rw [if_pos h1]; rfl
      rw [if_neg h1, if_neg e]; rfl
    rw [this]; exact Sb.nil w

set_option maxRecDepth 100000 in
theorem within_val (n m : Int) (w : World) : Calls Try.prog 34 #[.int .i64 n, .int .i64 m] w fun e w' => e = .returned (.bool (decide (0 ≤ n ∧ n ≤ m))) ∧ Below w.heap.size w w' := by
  by_cases h0 : 0 ≤ n
  · by_cases h1 : n ≤ m
    · rw [decide_eq_true (show 0 ≤ n ∧ n ≤ m from ⟨h0, h1⟩)]
      have q0 : decide (n ≥ 0) = true := decide_eq_true h0
      have q1 : decide (n ≤ m) = true := decide_eq_true h1
      go_enter Try.func34, Try.ntmps34
      go_wp2_with fail
      go_ret
      exact ⟨rfl, Below.refl _ _⟩
    · rw [decide_eq_false (show ¬ (0 ≤ n ∧ n ≤ m) from fun h => h1 h.2)]
      have q0 : decide (n ≥ 0) = true := decide_eq_true h0
      have q1 : decide (n ≤ m) = false := decide_eq_false h1
      go_enter Try.func34, Try.ntmps34
      go_wp2_with fail
      go_ret
      exact ⟨rfl, Below.refl _ _⟩
  · rw [decide_eq_false (show ¬ (0 ≤ n ∧ n ≤ m) from fun h => h0 h.1)]
    have q0 : decide (n ≥ 0) = false := decide_eq_false h0
    go_enter Try.func34, Try.ntmps34
    go_wp2_with fail
    go_ret
    exact ⟨rfl, Below.refl _ _⟩
end Go.Proofs.Ytjkiofgllmjkcaa.G
