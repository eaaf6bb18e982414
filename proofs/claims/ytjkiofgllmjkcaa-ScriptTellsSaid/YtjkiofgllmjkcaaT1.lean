/- The document: may an act be? -/
import Derived.Test.YtjkiofgllmjkcaaSm
namespace Go.Proofs.Ytjkiofgllmjkcaa.G
open Go.RowKit Go.Proofs.Ytjkiofgllmjkcaa.WordPlain
set_option linter.unusedVariables false
set_option linter.unusedSimpArgs false

theorem ract_cells {k rk p to pl : Int} {i v : ByteArray} {t n m cap : Nat} {oa : Option Addr} {W : World} {A : Nat} (h : W.heap[A]? = some (.cells #[.int .i64 k, .int .i64 rk, .string i, .string v, .float .f64 t, .int .i64 p, .int .u64 (n : Int), .slice oa m cap, .int .i64 to, .int .i64 pl] 47 (0, 0))) :
    W.cell? ⟨A, 0, none⟩ = some (.int .i64 k) ∧ W.cell? ⟨A, 1, none⟩ = some (.int .i64 rk) ∧ W.cell? ⟨A, 2, none⟩ = some (.string i) ∧ W.cell? ⟨A, 3, none⟩ = some (.string v) ∧ W.cell? ⟨A, 4, none⟩ = some (.float .f64 t) ∧ W.cell? ⟨A, 5, none⟩ = some (.int .i64 p) ∧ W.cell? ⟨A, 6, none⟩ = some (.int .u64 (n : Int)) ∧ W.cell? ⟨A, 7, none⟩ = some (.slice oa m cap) ∧ W.cell? ⟨A, 8, none⟩ = some (.int .i64 to) ∧ W.cell? ⟨A, 9, none⟩ = some (.int .i64 pl) :=
  ⟨(cell_of_row _ _ 0 _ _ _ h).trans rfl, (cell_of_row _ _ 1 _ _ _ h).trans rfl, (cell_of_row _ _ 2 _ _ _ h).trans rfl, (cell_of_row _ _ 3 _ _ _ h).trans rfl, (cell_of_row _ _ 4 _ _ _ h).trans rfl, (cell_of_row _ _ 5 _ _ _ h).trans rfl, (cell_of_row _ _ 6 _ _ _ h).trans rfl, (cell_of_row _ _ 7 _ _ _ h).trans rfl, (cell_of_row _ _ 8 _ _ _ h).trans rfl, (cell_of_row _ _ 9 _ _ _ h).trans rfl⟩
theorem bitsT (x : Nat) (W : World) : (callFunc 23 #[.float .f64 x]).run Try.prog W = .ok (.value (.int .u64 (x : Int))) W := by kernel_rfl
theorem alloc_below (w : World) (o : Obj) : Below w.heap.size w (w.alloc o) := (Below.refl w.heap.size w).alloc (Nat.le_refl _) o
theorem nilL : (ByteArray.mk #[]).toList = [] := by rw [ByteArray.toList_eq]
theorem strT0 {a : ByteArray} (h : a = ⟨#[]⟩) : (a.toList == (ByteArray.mk #[]).toList) = true := by rw [h]; exact beq_self_eq_true _
theorem strT1 {a : ByteArray} (h : a = ⟨#[]⟩) : (a.toList == []) = true := by rw [h, nilL]; rfl
theorem strT2 {a : ByteArray} (h : a = ⟨#[]⟩) : a.toList.isEmpty = true := by rw [h, nilL]; rfl
theorem strF0 {a : ByteArray} (h : ¬ a = ⟨#[]⟩) : (a.toList == (ByteArray.mk #[]).toList) = false := beq_eq_false_iff_ne.2 (fun e => h (by
  rw [ByteArray.toList_eq, ByteArray.toList_eq] at e
  exact ByteArray.ext (Array.toList_inj.1 e)))
theorem strF1 {a : ByteArray} (h : ¬ a = ⟨#[]⟩) : (a.toList == []) = false := by
  have := strF0 h
  rwa [show (ByteArray.mk #[]).toList = [] from by rw [ByteArray.toList_eq]] at this
theorem strF2 {a : ByteArray} (h : ¬ a = ⟨#[]⟩) : a.toList.isEmpty = false := by
  have := strF1 h
  cases hl : a.toList with
  | nil => rw [hl] at this; cases this
  | cons _ _ => rfl

theorem lt_of_rowQ {W : World} {g : Nat} {o : Obj} (h : W.heap[g]? = some o) : g < W.heap.size := by
  rcases Nat.lt_or_ge g W.heap.size with h' | h'
  · exact h'
  · rw [Array.getElem?_eq_none h'] at h; cases h
theorem stepQ {w w1 w2 : World} (h1 : Below w.heap.size w w1) (h2 : Below w1.heap.size w1 w2) : Below w.heap.size w w2 := h1.trans (h2.mono h1.size)

set_option maxRecDepth 100000 in
set_option maxHeartbeats 4000000 in
theorem rwhole_0 (w : World) (k rk p to pl : Int) (i v : ByteArray) (t n m cap : Nat) (oa : Option Addr) (hc0 : ¬ (m = 0))  :
    Calls Try.prog 35 #[.agg #[.int .i64 k, .int .i64 rk, .string i, .string v, .float .f64 t, .int .i64 p, .int .u64 (n : Int), .slice oa m cap, .int .i64 to, .int .i64 pl]] w fun e w' => e = .returned (.bool false) ∧ Below w.heap.size w w' := by
  have g0_0 : ((m : Int) == 0) = false := beq_eq_false_iff_ne.2 (by omega)
  have g0_1 : ((m : Int) = 0) = False := eq_false (by omega)
  have g0_2 : (m = 0) = False := eq_false (by omega)
  clear hc0
  have b0 := alloc_below w (.cells #[.int .i64 k, .int .i64 rk, .string i, .string v, .float .f64 t, .int .i64 p, .int .u64 (n : Int), .slice oa m cap, .int .i64 to, .int .i64 pl] 47)
  have n0 := heap_alloc_new w (.cells #[.int .i64 k, .int .i64 rk, .string i, .string v, .float .f64 t, .int .i64 p, .int .u64 (n : Int), .slice oa m cap, .int .i64 to, .int .i64 pl] 47)
  have HB := Lib.hid b0
  clear b0 n0
  go_enter Try.func35, Try.ntmps35
  go_wp2_with fail
  go_ret
  exact ⟨rfl, HB.out⟩
set_option maxRecDepth 100000 in
set_option maxHeartbeats 4000000 in
theorem rwhole_1 (w : World) (k rk p to pl : Int) (i v : ByteArray) (t n m cap : Nat) (oa : Option Addr) (hc0 : m = 0) (hc1 : ¬ (to = 0))  :
    Calls Try.prog 35 #[.agg #[.int .i64 k, .int .i64 rk, .string i, .string v, .float .f64 t, .int .i64 p, .int .u64 (n : Int), .slice oa m cap, .int .i64 to, .int .i64 pl]] w fun e w' => e = .returned (.bool false) ∧ Below w.heap.size w w' := by
  have g0_0 : ((m : Int) == 0) = true := beq_iff_eq.2 (by omega)
  have g0_1 : ((m : Int) = 0) = True := eq_true (by omega)
  have g0_2 : (m = 0) = True := eq_true (by omega)
  have g1_0 : (to == 0) = false := beq_eq_false_iff_ne.2 (by omega)
  have g1_1 : (to = 0) = False := eq_false (by omega)
  clear hc0 hc1
  have b0 := alloc_below w (.cells #[.int .i64 k, .int .i64 rk, .string i, .string v, .float .f64 t, .int .i64 p, .int .u64 (n : Int), .slice oa m cap, .int .i64 to, .int .i64 pl] 47)
  have n0 := heap_alloc_new w (.cells #[.int .i64 k, .int .i64 rk, .string i, .string v, .float .f64 t, .int .i64 p, .int .u64 (n : Int), .slice oa m cap, .int .i64 to, .int .i64 pl] 47)
  have HB := Lib.hid b0
  clear b0 n0
  go_enter Try.func35, Try.ntmps35
  go_wp2_with fail
  go_ret
  exact ⟨rfl, HB.out⟩
set_option maxRecDepth 100000 in
set_option maxHeartbeats 4000000 in
theorem rwhole_2 (w : World) (k rk p to pl : Int) (i v : ByteArray) (t n m cap : Nat) (oa : Option Addr) (hc0 : m = 0) (hc1 : to = 0) (hc2 : ¬ (pl = 0))  :
    Calls Try.prog 35 #[.agg #[.int .i64 k, .int .i64 rk, .string i, .string v, .float .f64 t, .int .i64 p, .int .u64 (n : Int), .slice oa m cap, .int .i64 to, .int .i64 pl]] w fun e w' => e = .returned (.bool false) ∧ Below w.heap.size w w' := by
  have g0_0 : ((m : Int) == 0) = true := beq_iff_eq.2 (by omega)
  have g0_1 : ((m : Int) = 0) = True := eq_true (by omega)
  have g0_2 : (m = 0) = True := eq_true (by omega)
  have g1_0 : (to == 0) = true := beq_iff_eq.2 (by omega)
  have g1_1 : (to = 0) = True := eq_true (by omega)
  have g2_0 : (pl == 0) = false := beq_eq_false_iff_ne.2 (by omega)
  have g2_1 : (pl = 0) = False := eq_false (by omega)
  clear hc0 hc1 hc2
  have b0 := alloc_below w (.cells #[.int .i64 k, .int .i64 rk, .string i, .string v, .float .f64 t, .int .i64 p, .int .u64 (n : Int), .slice oa m cap, .int .i64 to, .int .i64 pl] 47)
  have n0 := heap_alloc_new w (.cells #[.int .i64 k, .int .i64 rk, .string i, .string v, .float .f64 t, .int .i64 p, .int .u64 (n : Int), .slice oa m cap, .int .i64 to, .int .i64 pl] 47)
  have HB := Lib.hid b0
  clear b0 n0
  go_enter Try.func35, Try.ntmps35
  go_wp2_with fail
  go_ret
  exact ⟨rfl, HB.out⟩
set_option maxRecDepth 100000 in
set_option maxHeartbeats 4000000 in
theorem rwhole_t (w : World) (k rk p to pl : Int) (i v : ByteArray) (t n m cap : Nat) (oa : Option Addr) (hc0 : m = 0) (hc1 : to = 0) (hc2 : pl = 0)  :
    Calls Try.prog 35 #[.agg #[.int .i64 k, .int .i64 rk, .string i, .string v, .float .f64 t, .int .i64 p, .int .u64 (n : Int), .slice oa m cap, .int .i64 to, .int .i64 pl]] w fun e w' => e = .returned (.bool true) ∧ Below w.heap.size w w' := by
  have g0_0 : ((m : Int) == 0) = true := beq_iff_eq.2 (by omega)
  have g0_1 : ((m : Int) = 0) = True := eq_true (by omega)
  have g0_2 : (m = 0) = True := eq_true (by omega)
  have g1_0 : (to == 0) = true := beq_iff_eq.2 (by omega)
  have g1_1 : (to = 0) = True := eq_true (by omega)
  have g2_0 : (pl == 0) = true := beq_iff_eq.2 (by omega)
  have g2_1 : (pl = 0) = True := eq_true (by omega)
  clear hc0 hc1 hc2
  have b0 := alloc_below w (.cells #[.int .i64 k, .int .i64 rk, .string i, .string v, .float .f64 t, .int .i64 p, .int .u64 (n : Int), .slice oa m cap, .int .i64 to, .int .i64 pl] 47)
  have n0 := heap_alloc_new w (.cells #[.int .i64 k, .int .i64 rk, .string i, .string v, .float .f64 t, .int .i64 p, .int .u64 (n : Int), .slice oa m cap, .int .i64 to, .int .i64 pl] 47)
  have HB := Lib.hid b0
  clear b0 n0
  go_enter Try.func35, Try.ntmps35
  go_wp2_with fail
  go_ret
  exact ⟨rfl, HB.out⟩
set_option maxRecDepth 100000 in
set_option maxHeartbeats 4000000 in
theorem rplain_0 (w : World) (k rk p to pl : Int) (i v : ByteArray) (t n m cap : Nat) (oa : Option Addr) (hc0 : ¬ (rk = 0))  :
    Calls Try.prog 36 #[.agg #[.int .i64 k, .int .i64 rk, .string i, .string v, .float .f64 t, .int .i64 p, .int .u64 (n : Int), .slice oa m cap, .int .i64 to, .int .i64 pl]] w fun e w' => e = .returned (.bool false) ∧ Below w.heap.size w w' := by
  have g0_0 : (rk == 0) = false := beq_eq_false_iff_ne.2 (by omega)
  have g0_1 : (rk = 0) = False := eq_false (by omega)
  clear hc0
  have b0 := alloc_below w (.cells #[.int .i64 k, .int .i64 rk, .string i, .string v, .float .f64 t, .int .i64 p, .int .u64 (n : Int), .slice oa m cap, .int .i64 to, .int .i64 pl] 47)
  have n0 := heap_alloc_new w (.cells #[.int .i64 k, .int .i64 rk, .string i, .string v, .float .f64 t, .int .i64 p, .int .u64 (n : Int), .slice oa m cap, .int .i64 to, .int .i64 pl] 47)
  have HB := Lib.hid b0
  clear b0 n0
  go_enter Try.func36, Try.ntmps36
  go_wp2_with fail
  go_ret
  exact ⟨rfl, HB.out⟩
set_option maxRecDepth 100000 in
set_option maxHeartbeats 4000000 in
theorem rplain_1 (w : World) (k rk p to pl : Int) (i v : ByteArray) (t n m cap : Nat) (oa : Option Addr) (hc0 : rk = 0) (hc1 : ¬ (i = ⟨#[]⟩))  :
    Calls Try.prog 36 #[.agg #[.int .i64 k, .int .i64 rk, .string i, .string v, .float .f64 t, .int .i64 p, .int .u64 (n : Int), .slice oa m cap, .int .i64 to, .int .i64 pl]] w fun e w' => e = .returned (.bool false) ∧ Below w.heap.size w w' := by
  have g0_0 : (rk == 0) = true := beq_iff_eq.2 (by omega)
  have g0_1 : (rk = 0) = True := eq_true (by omega)
  have g1_0 : (i.toList == (ByteArray.mk #[]).toList) = false := strF0 hc1
  have g1_1 : (i.toList == []) = false := strF1 hc1
  have g1_2 : i.toList.isEmpty = false := strF2 hc1
  have g1_3 : (i = ⟨#[]⟩) = False := eq_false hc1
  clear hc0 hc1
  have b0 := alloc_below w (.cells #[.int .i64 k, .int .i64 rk, .string i, .string v, .float .f64 t, .int .i64 p, .int .u64 (n : Int), .slice oa m cap, .int .i64 to, .int .i64 pl] 47)
  have n0 := heap_alloc_new w (.cells #[.int .i64 k, .int .i64 rk, .string i, .string v, .float .f64 t, .int .i64 p, .int .u64 (n : Int), .slice oa m cap, .int .i64 to, .int .i64 pl] 47)
  have HB := Lib.hid b0
  clear b0 n0
  go_enter Try.func36, Try.ntmps36
  go_wp2_with fail
  go_ret
  exact ⟨rfl, HB.out⟩
set_option maxRecDepth 100000 in
set_option maxHeartbeats 4000000 in
theorem rplain_2 (w : World) (k rk p to pl : Int) (i v : ByteArray) (t n m cap : Nat) (oa : Option Addr) (hc0 : rk = 0) (hc1 : i = ⟨#[]⟩) (hc2 : ¬ (v = ⟨#[]⟩))  :
    Calls Try.prog 36 #[.agg #[.int .i64 k, .int .i64 rk, .string i, .string v, .float .f64 t, .int .i64 p, .int .u64 (n : Int), .slice oa m cap, .int .i64 to, .int .i64 pl]] w fun e w' => e = .returned (.bool false) ∧ Below w.heap.size w w' := by
  have g0_0 : (rk == 0) = true := beq_iff_eq.2 (by omega)
  have g0_1 : (rk = 0) = True := eq_true (by omega)
  have g1_0 : (i.toList == (ByteArray.mk #[]).toList) = true := strT0 hc1
  have g1_1 : (i.toList == []) = true := strT1 hc1
  have g1_2 : i.toList.isEmpty = true := strT2 hc1
  have g1_3 : (i = ⟨#[]⟩) = True := eq_true hc1
  have g2_0 : (v.toList == (ByteArray.mk #[]).toList) = false := strF0 hc2
  have g2_1 : (v.toList == []) = false := strF1 hc2
  have g2_2 : v.toList.isEmpty = false := strF2 hc2
  have g2_3 : (v = ⟨#[]⟩) = False := eq_false hc2
  clear hc0 hc1 hc2
  have b0 := alloc_below w (.cells #[.int .i64 k, .int .i64 rk, .string i, .string v, .float .f64 t, .int .i64 p, .int .u64 (n : Int), .slice oa m cap, .int .i64 to, .int .i64 pl] 47)
  have n0 := heap_alloc_new w (.cells #[.int .i64 k, .int .i64 rk, .string i, .string v, .float .f64 t, .int .i64 p, .int .u64 (n : Int), .slice oa m cap, .int .i64 to, .int .i64 pl] 47)
  have HB := Lib.hid b0
  clear b0 n0
  go_enter Try.func36, Try.ntmps36
  go_wp2_with fail
  go_ret
  exact ⟨rfl, HB.out⟩
set_option maxRecDepth 100000 in
set_option maxHeartbeats 4000000 in
theorem rplain_3 (w : World) (k rk p to pl : Int) (i v : ByteArray) (t n m cap : Nat) (oa : Option Addr) (hc0 : rk = 0) (hc1 : i = ⟨#[]⟩) (hc2 : v = ⟨#[]⟩) (hc3 : ¬ (t = 0))  :
    Calls Try.prog 36 #[.agg #[.int .i64 k, .int .i64 rk, .string i, .string v, .float .f64 t, .int .i64 p, .int .u64 (n : Int), .slice oa m cap, .int .i64 to, .int .i64 pl]] w fun e w' => e = .returned (.bool false) ∧ Below w.heap.size w w' := by
  have g0_0 : (rk == 0) = true := beq_iff_eq.2 (by omega)
  have g0_1 : (rk = 0) = True := eq_true (by omega)
  have g1_0 : (i.toList == (ByteArray.mk #[]).toList) = true := strT0 hc1
  have g1_1 : (i.toList == []) = true := strT1 hc1
  have g1_2 : i.toList.isEmpty = true := strT2 hc1
  have g1_3 : (i = ⟨#[]⟩) = True := eq_true hc1
  have g2_0 : (v.toList == (ByteArray.mk #[]).toList) = true := strT0 hc2
  have g2_1 : (v.toList == []) = true := strT1 hc2
  have g2_2 : v.toList.isEmpty = true := strT2 hc2
  have g2_3 : (v = ⟨#[]⟩) = True := eq_true hc2
  have g3_0 : ((t : Int) == 0) = false := beq_eq_false_iff_ne.2 (by omega)
  have g3_1 : ((t : Int) = 0) = False := eq_false (by omega)
  have g3_2 : (t = 0) = False := eq_false (by omega)
  have fb := bitsT t
  clear hc0 hc1 hc2 hc3
  have b0 := alloc_below w (.cells #[.int .i64 k, .int .i64 rk, .string i, .string v, .float .f64 t, .int .i64 p, .int .u64 (n : Int), .slice oa m cap, .int .i64 to, .int .i64 pl] 47)
  have n0 := heap_alloc_new w (.cells #[.int .i64 k, .int .i64 rk, .string i, .string v, .float .f64 t, .int .i64 p, .int .u64 (n : Int), .slice oa m cap, .int .i64 to, .int .i64 pl] 47)
  have HB := Lib.hid b0
  clear b0 n0
  go_enter Try.func36, Try.ntmps36
  go_wp2_with fail
  go_ret
  exact ⟨rfl, HB.out⟩
set_option maxRecDepth 100000 in
set_option maxHeartbeats 4000000 in
theorem rplain_4 (w : World) (k rk p to pl : Int) (i v : ByteArray) (t n m cap : Nat) (oa : Option Addr) (hc0 : rk = 0) (hc1 : i = ⟨#[]⟩) (hc2 : v = ⟨#[]⟩) (hc3 : t = 0) (hc4 : ¬ (p = 0))  :
    Calls Try.prog 36 #[.agg #[.int .i64 k, .int .i64 rk, .string i, .string v, .float .f64 t, .int .i64 p, .int .u64 (n : Int), .slice oa m cap, .int .i64 to, .int .i64 pl]] w fun e w' => e = .returned (.bool false) ∧ Below w.heap.size w w' := by
  have g0_0 : (rk == 0) = true := beq_iff_eq.2 (by omega)
  have g0_1 : (rk = 0) = True := eq_true (by omega)
  have g1_0 : (i.toList == (ByteArray.mk #[]).toList) = true := strT0 hc1
  have g1_1 : (i.toList == []) = true := strT1 hc1
  have g1_2 : i.toList.isEmpty = true := strT2 hc1
  have g1_3 : (i = ⟨#[]⟩) = True := eq_true hc1
  have g2_0 : (v.toList == (ByteArray.mk #[]).toList) = true := strT0 hc2
  have g2_1 : (v.toList == []) = true := strT1 hc2
  have g2_2 : v.toList.isEmpty = true := strT2 hc2
  have g2_3 : (v = ⟨#[]⟩) = True := eq_true hc2
  have g3_0 : ((t : Int) == 0) = true := beq_iff_eq.2 (by omega)
  have g3_1 : ((t : Int) = 0) = True := eq_true (by omega)
  have g3_2 : (t = 0) = True := eq_true (by omega)
  have g4_0 : (p == 0) = false := beq_eq_false_iff_ne.2 (by omega)
  have g4_1 : (p = 0) = False := eq_false (by omega)
  have fb := bitsT t
  clear hc0 hc1 hc2 hc3 hc4
  have b0 := alloc_below w (.cells #[.int .i64 k, .int .i64 rk, .string i, .string v, .float .f64 t, .int .i64 p, .int .u64 (n : Int), .slice oa m cap, .int .i64 to, .int .i64 pl] 47)
  have n0 := heap_alloc_new w (.cells #[.int .i64 k, .int .i64 rk, .string i, .string v, .float .f64 t, .int .i64 p, .int .u64 (n : Int), .slice oa m cap, .int .i64 to, .int .i64 pl] 47)
  have HB := Lib.hid b0
  clear b0 n0
  go_enter Try.func36, Try.ntmps36
  go_wp2_with fail
  go_ret
  exact ⟨rfl, HB.out⟩
set_option maxRecDepth 100000 in
set_option maxHeartbeats 4000000 in
theorem rplain_t (w : World) (k rk p to pl : Int) (i v : ByteArray) (t n m cap : Nat) (oa : Option Addr) (hc0 : rk = 0) (hc1 : i = ⟨#[]⟩) (hc2 : v = ⟨#[]⟩) (hc3 : t = 0) (hc4 : p = 0)  :
    Calls Try.prog 36 #[.agg #[.int .i64 k, .int .i64 rk, .string i, .string v, .float .f64 t, .int .i64 p, .int .u64 (n : Int), .slice oa m cap, .int .i64 to, .int .i64 pl]] w fun e w' => e = .returned (.bool true) ∧ Below w.heap.size w w' := by
  have g0_0 : (rk == 0) = true := beq_iff_eq.2 (by omega)
  have g0_1 : (rk = 0) = True := eq_true (by omega)
  have g1_0 : (i.toList == (ByteArray.mk #[]).toList) = true := strT0 hc1
  have g1_1 : (i.toList == []) = true := strT1 hc1
  have g1_2 : i.toList.isEmpty = true := strT2 hc1
  have g1_3 : (i = ⟨#[]⟩) = True := eq_true hc1
  have g2_0 : (v.toList == (ByteArray.mk #[]).toList) = true := strT0 hc2
  have g2_1 : (v.toList == []) = true := strT1 hc2
  have g2_2 : v.toList.isEmpty = true := strT2 hc2
  have g2_3 : (v = ⟨#[]⟩) = True := eq_true hc2
  have g3_0 : ((t : Int) == 0) = true := beq_iff_eq.2 (by omega)
  have g3_1 : ((t : Int) = 0) = True := eq_true (by omega)
  have g3_2 : (t = 0) = True := eq_true (by omega)
  have g4_0 : (p == 0) = true := beq_iff_eq.2 (by omega)
  have g4_1 : (p = 0) = True := eq_true (by omega)
  have fb := bitsT t
  clear hc0 hc1 hc2 hc3 hc4
  have b0 := alloc_below w (.cells #[.int .i64 k, .int .i64 rk, .string i, .string v, .float .f64 t, .int .i64 p, .int .u64 (n : Int), .slice oa m cap, .int .i64 to, .int .i64 pl] 47)
  have n0 := heap_alloc_new w (.cells #[.int .i64 k, .int .i64 rk, .string i, .string v, .float .f64 t, .int .i64 p, .int .u64 (n : Int), .slice oa m cap, .int .i64 to, .int .i64 pl] 47)
  have HB := Lib.hid b0
  clear b0 n0
  go_enter Try.func36, Try.ntmps36
  go_wp2_with fail
  go_ret
  exact ⟨rfl, HB.out⟩
set_option maxRecDepth 100000 in
set_option maxHeartbeats 4000000 in
theorem rR0_w (w : World) (rk p to pl : Int) (i v : ByteArray) (t n m cap : Nat) (oa : Option Addr)  (H0 : Hid (∀ W, Calls Try.prog 35 #[.agg #[.int .i64 0, .int .i64 rk, .string i, .string v, .float .f64 t, .int .i64 p, .int .u64 (n : Int), .slice oa m cap, .int .i64 to, .int .i64 pl]] W fun e w' => e = .returned (.bool false) ∧ Below W.heap.size W w')) :
    Calls Try.prog 17 #[.agg #[.int .i64 0, .int .i64 rk, .string i, .string v, .float .f64 t, .int .i64 p, .int .u64 (n : Int), .slice oa m cap, .int .i64 to, .int .i64 pl]] w fun e w' => e = .returned (.bool false) ∧ Below w.heap.size w w' := by
  have b0 := alloc_below w (.cells #[.int .i64 0, .int .i64 rk, .string i, .string v, .float .f64 t, .int .i64 p, .int .u64 (n : Int), .slice oa m cap, .int .i64 to, .int .i64 pl] 47)
  have n0 := heap_alloc_new w (.cells #[.int .i64 0, .int .i64 rk, .string i, .string v, .float .f64 t, .int .i64 p, .int .u64 (n : Int), .slice oa m cap, .int .i64 to, .int .i64 pl] 47)
  have B0 := Lib.hid b0
  have N0 := Lib.hid n0
  clear b0 n0
  go_enter Try.func17, Try.ntmps17
  go_wp2_with fail
  refine (H0.out _).mono ?_; rintro e v0 ⟨rfl, d0⟩
  have B1 := Lib.hid (stepQ B0.out d0)
  have N1 := Lib.hid ((d0.block _ (lt_of_rowQ N0.out)).trans N0.out)
  obtain ⟨c0, c1, c2, c3, c4, c5, c6, c7, c8, c9⟩ := ract_cells N1.out
  clear d0 N0
  go_wp2_with fail
  go_ret
  exact ⟨rfl, B1.out⟩
set_option maxRecDepth 100000 in
set_option maxHeartbeats 4000000 in
theorem rR0_0 (w : World) (rk p to pl : Int) (i v : ByteArray) (t n m cap : Nat) (oa : Option Addr) (hc0 : ¬ (n = 0)) (H0 : Hid (∀ W, Calls Try.prog 35 #[.agg #[.int .i64 0, .int .i64 rk, .string i, .string v, .float .f64 t, .int .i64 p, .int .u64 (n : Int), .slice oa m cap, .int .i64 to, .int .i64 pl]] W fun e w' => e = .returned (.bool true) ∧ Below W.heap.size W w')) :
    Calls Try.prog 17 #[.agg #[.int .i64 0, .int .i64 rk, .string i, .string v, .float .f64 t, .int .i64 p, .int .u64 (n : Int), .slice oa m cap, .int .i64 to, .int .i64 pl]] w fun e w' => e = .returned (.bool false) ∧ Below w.heap.size w w' := by
  have g0_0 : ((n : Int) == 0) = false := beq_eq_false_iff_ne.2 (by omega)
  have g0_1 : ((n : Int) = 0) = False := eq_false (by omega)
  have g0_2 : (n = 0) = False := eq_false (by omega)
  clear hc0
  have b0 := alloc_below w (.cells #[.int .i64 0, .int .i64 rk, .string i, .string v, .float .f64 t, .int .i64 p, .int .u64 (n : Int), .slice oa m cap, .int .i64 to, .int .i64 pl] 47)
  have n0 := heap_alloc_new w (.cells #[.int .i64 0, .int .i64 rk, .string i, .string v, .float .f64 t, .int .i64 p, .int .u64 (n : Int), .slice oa m cap, .int .i64 to, .int .i64 pl] 47)
  have B0 := Lib.hid b0
  have N0 := Lib.hid n0
  clear b0 n0
  go_enter Try.func17, Try.ntmps17
  go_wp2_with fail
  refine (H0.out _).mono ?_; rintro e v0 ⟨rfl, d0⟩
  have B1 := Lib.hid (stepQ B0.out d0)
  have N1 := Lib.hid ((d0.block _ (lt_of_rowQ N0.out)).trans N0.out)
  obtain ⟨c0, c1, c2, c3, c4, c5, c6, c7, c8, c9⟩ := ract_cells N1.out
  clear d0 N0
  go_wp2_with fail
  go_ret
  exact ⟨rfl, B1.out⟩
set_option maxRecDepth 100000 in
set_option maxHeartbeats 4000000 in
theorem rR0_1 (w : World) (rk p to pl : Int) (i v : ByteArray) (t n m cap : Nat) (oa : Option Addr) (hc0 : n = 0) (hc1 : ¬ (0 ≤ rk)) (H0 : Hid (∀ W, Calls Try.prog 35 #[.agg #[.int .i64 0, .int .i64 rk, .string i, .string v, .float .f64 t, .int .i64 p, .int .u64 (n : Int), .slice oa m cap, .int .i64 to, .int .i64 pl]] W fun e w' => e = .returned (.bool true) ∧ Below W.heap.size W w')) :
    Calls Try.prog 17 #[.agg #[.int .i64 0, .int .i64 rk, .string i, .string v, .float .f64 t, .int .i64 p, .int .u64 (n : Int), .slice oa m cap, .int .i64 to, .int .i64 pl]] w fun e w' => e = .returned (.bool false) ∧ Below w.heap.size w w' := by
  have g0_0 : ((n : Int) == 0) = true := beq_iff_eq.2 (by omega)
  have g0_1 : ((n : Int) = 0) = True := eq_true (by omega)
  have g0_2 : (n = 0) = True := eq_true (by omega)
  have g1_0 : decide (rk ≥ 0) = false := decide_eq_false (by omega)
  have g1_1 : (0 ≤ rk) = False := eq_false (by omega)
  have g1_2 : decide (0 ≤ rk) = false := decide_eq_false (by omega)
  clear hc0 hc1
  have b0 := alloc_below w (.cells #[.int .i64 0, .int .i64 rk, .string i, .string v, .float .f64 t, .int .i64 p, .int .u64 (n : Int), .slice oa m cap, .int .i64 to, .int .i64 pl] 47)
  have n0 := heap_alloc_new w (.cells #[.int .i64 0, .int .i64 rk, .string i, .string v, .float .f64 t, .int .i64 p, .int .u64 (n : Int), .slice oa m cap, .int .i64 to, .int .i64 pl] 47)
  have B0 := Lib.hid b0
  have N0 := Lib.hid n0
  clear b0 n0
  go_enter Try.func17, Try.ntmps17
  go_wp2_with fail
  refine (H0.out _).mono ?_; rintro e v0 ⟨rfl, d0⟩
  have B1 := Lib.hid (stepQ B0.out d0)
  have N1 := Lib.hid ((d0.block _ (lt_of_rowQ N0.out)).trans N0.out)
  obtain ⟨c0, c1, c2, c3, c4, c5, c6, c7, c8, c9⟩ := ract_cells N1.out
  clear d0 N0
  go_wp2_with fail
  go_ret
  exact ⟨rfl, B1.out⟩
set_option maxRecDepth 100000 in
set_option maxHeartbeats 4000000 in
theorem rR0_2 (w : World) (rk p to pl : Int) (i v : ByteArray) (t n m cap : Nat) (oa : Option Addr) (hc0 : n = 0) (hc1 : 0 ≤ rk) (hc2 : ¬ (rk ≤ 255)) (H0 : Hid (∀ W, Calls Try.prog 35 #[.agg #[.int .i64 0, .int .i64 rk, .string i, .string v, .float .f64 t, .int .i64 p, .int .u64 (n : Int), .slice oa m cap, .int .i64 to, .int .i64 pl]] W fun e w' => e = .returned (.bool true) ∧ Below W.heap.size W w')) :
    Calls Try.prog 17 #[.agg #[.int .i64 0, .int .i64 rk, .string i, .string v, .float .f64 t, .int .i64 p, .int .u64 (n : Int), .slice oa m cap, .int .i64 to, .int .i64 pl]] w fun e w' => e = .returned (.bool false) ∧ Below w.heap.size w w' := by
  have g0_0 : ((n : Int) == 0) = true := beq_iff_eq.2 (by omega)
  have g0_1 : ((n : Int) = 0) = True := eq_true (by omega)
  have g0_2 : (n = 0) = True := eq_true (by omega)
  have g1_0 : decide (rk ≥ 0) = true := decide_eq_true (by omega)
  have g1_1 : (0 ≤ rk) = True := eq_true (by omega)
  have g1_2 : decide (0 ≤ rk) = true := decide_eq_true (by omega)
  have g2_0 : decide (rk ≤ 255) = false := decide_eq_false (by omega)
  have g2_1 : (rk ≤ 255) = False := eq_false (by omega)
  clear hc0 hc1 hc2
  have b0 := alloc_below w (.cells #[.int .i64 0, .int .i64 rk, .string i, .string v, .float .f64 t, .int .i64 p, .int .u64 (n : Int), .slice oa m cap, .int .i64 to, .int .i64 pl] 47)
  have n0 := heap_alloc_new w (.cells #[.int .i64 0, .int .i64 rk, .string i, .string v, .float .f64 t, .int .i64 p, .int .u64 (n : Int), .slice oa m cap, .int .i64 to, .int .i64 pl] 47)
  have B0 := Lib.hid b0
  have N0 := Lib.hid n0
  clear b0 n0
  go_enter Try.func17, Try.ntmps17
  go_wp2_with fail
  refine (H0.out _).mono ?_; rintro e v0 ⟨rfl, d0⟩
  have B1 := Lib.hid (stepQ B0.out d0)
  have N1 := Lib.hid ((d0.block _ (lt_of_rowQ N0.out)).trans N0.out)
  obtain ⟨c0, c1, c2, c3, c4, c5, c6, c7, c8, c9⟩ := ract_cells N1.out
  clear d0 N0
  go_wp2_with fail
  go_ret
  exact ⟨rfl, B1.out⟩
set_option maxRecDepth 100000 in
set_option maxHeartbeats 4000000 in
theorem rR0_3 (w : World) (rk p to pl : Int) (i v : ByteArray) (t n m cap : Nat) (oa : Option Addr) (hc0 : n = 0) (hc1 : 0 ≤ rk) (hc2 : rk ≤ 255) (hc3 : ¬ (i.size ≤ 255)) (H0 : Hid (∀ W, Calls Try.prog 35 #[.agg #[.int .i64 0, .int .i64 rk, .string i, .string v, .float .f64 t, .int .i64 p, .int .u64 (n : Int), .slice oa m cap, .int .i64 to, .int .i64 pl]] W fun e w' => e = .returned (.bool true) ∧ Below W.heap.size W w')) :
    Calls Try.prog 17 #[.agg #[.int .i64 0, .int .i64 rk, .string i, .string v, .float .f64 t, .int .i64 p, .int .u64 (n : Int), .slice oa m cap, .int .i64 to, .int .i64 pl]] w fun e w' => e = .returned (.bool false) ∧ Below w.heap.size w w' := by
  have g0_0 : ((n : Int) == 0) = true := beq_iff_eq.2 (by omega)
  have g0_1 : ((n : Int) = 0) = True := eq_true (by omega)
  have g0_2 : (n = 0) = True := eq_true (by omega)
  have g1_0 : decide (rk ≥ 0) = true := decide_eq_true (by omega)
  have g1_1 : (0 ≤ rk) = True := eq_true (by omega)
  have g1_2 : decide (0 ≤ rk) = true := decide_eq_true (by omega)
  have g2_0 : decide (rk ≤ 255) = true := decide_eq_true (by omega)
  have g2_1 : (rk ≤ 255) = True := eq_true (by omega)
  have g3_0 : decide ((i.size : Int) ≤ 255) = false := decide_eq_false (by omega)
  have g3_1 : ((i.size : Int) ≤ 255) = False := eq_false (by omega)
  have g3_2 : (i.size ≤ 255) = False := eq_false (by omega)
  clear hc0 hc1 hc2 hc3
  have b0 := alloc_below w (.cells #[.int .i64 0, .int .i64 rk, .string i, .string v, .float .f64 t, .int .i64 p, .int .u64 (n : Int), .slice oa m cap, .int .i64 to, .int .i64 pl] 47)
  have n0 := heap_alloc_new w (.cells #[.int .i64 0, .int .i64 rk, .string i, .string v, .float .f64 t, .int .i64 p, .int .u64 (n : Int), .slice oa m cap, .int .i64 to, .int .i64 pl] 47)
  have B0 := Lib.hid b0
  have N0 := Lib.hid n0
  clear b0 n0
  go_enter Try.func17, Try.ntmps17
  go_wp2_with fail
  refine (H0.out _).mono ?_; rintro e v0 ⟨rfl, d0⟩
  have B1 := Lib.hid (stepQ B0.out d0)
  have N1 := Lib.hid ((d0.block _ (lt_of_rowQ N0.out)).trans N0.out)
  obtain ⟨c0, c1, c2, c3, c4, c5, c6, c7, c8, c9⟩ := ract_cells N1.out
  clear d0 N0
  go_wp2_with fail
  go_ret
  exact ⟨rfl, B1.out⟩
set_option maxRecDepth 100000 in
set_option maxHeartbeats 4000000 in
theorem rR0_4 (w : World) (rk p to pl : Int) (i v : ByteArray) (t n m cap : Nat) (oa : Option Addr) (hc0 : n = 0) (hc1 : 0 ≤ rk) (hc2 : rk ≤ 255) (hc3 : i.size ≤ 255) (hc4 : ¬ (v.size ≤ 255)) (H0 : Hid (∀ W, Calls Try.prog 35 #[.agg #[.int .i64 0, .int .i64 rk, .string i, .string v, .float .f64 t, .int .i64 p, .int .u64 (n : Int), .slice oa m cap, .int .i64 to, .int .i64 pl]] W fun e w' => e = .returned (.bool true) ∧ Below W.heap.size W w')) :
    Calls Try.prog 17 #[.agg #[.int .i64 0, .int .i64 rk, .string i, .string v, .float .f64 t, .int .i64 p, .int .u64 (n : Int), .slice oa m cap, .int .i64 to, .int .i64 pl]] w fun e w' => e = .returned (.bool false) ∧ Below w.heap.size w w' := by
  have g0_0 : ((n : Int) == 0) = true := beq_iff_eq.2 (by omega)
  have g0_1 : ((n : Int) = 0) = True := eq_true (by omega)
  have g0_2 : (n = 0) = True := eq_true (by omega)
  have g1_0 : decide (rk ≥ 0) = true := decide_eq_true (by omega)
  have g1_1 : (0 ≤ rk) = True := eq_true (by omega)
  have g1_2 : decide (0 ≤ rk) = true := decide_eq_true (by omega)
  have g2_0 : decide (rk ≤ 255) = true := decide_eq_true (by omega)
  have g2_1 : (rk ≤ 255) = True := eq_true (by omega)
  have g3_0 : decide ((i.size : Int) ≤ 255) = true := decide_eq_true (by omega)
  have g3_1 : ((i.size : Int) ≤ 255) = True := eq_true (by omega)
  have g3_2 : (i.size ≤ 255) = True := eq_true (by omega)
  have g4_0 : decide ((v.size : Int) ≤ 255) = false := decide_eq_false (by omega)
  have g4_1 : ((v.size : Int) ≤ 255) = False := eq_false (by omega)
  have g4_2 : (v.size ≤ 255) = False := eq_false (by omega)
  clear hc0 hc1 hc2 hc3 hc4
  have b0 := alloc_below w (.cells #[.int .i64 0, .int .i64 rk, .string i, .string v, .float .f64 t, .int .i64 p, .int .u64 (n : Int), .slice oa m cap, .int .i64 to, .int .i64 pl] 47)
  have n0 := heap_alloc_new w (.cells #[.int .i64 0, .int .i64 rk, .string i, .string v, .float .f64 t, .int .i64 p, .int .u64 (n : Int), .slice oa m cap, .int .i64 to, .int .i64 pl] 47)
  have B0 := Lib.hid b0
  have N0 := Lib.hid n0
  clear b0 n0
  go_enter Try.func17, Try.ntmps17
  go_wp2_with fail
  refine (H0.out _).mono ?_; rintro e v0 ⟨rfl, d0⟩
  have B1 := Lib.hid (stepQ B0.out d0)
  have N1 := Lib.hid ((d0.block _ (lt_of_rowQ N0.out)).trans N0.out)
  obtain ⟨c0, c1, c2, c3, c4, c5, c6, c7, c8, c9⟩ := ract_cells N1.out
  clear d0 N0
  go_wp2_with fail
  go_ret
  exact ⟨rfl, B1.out⟩
set_option maxRecDepth 100000 in
set_option maxHeartbeats 4000000 in
theorem rR0_5 (w : World) (rk p to pl : Int) (i v : ByteArray) (t n m cap : Nat) (oa : Option Addr) (hc0 : n = 0) (hc1 : 0 ≤ rk) (hc2 : rk ≤ 255) (hc3 : i.size ≤ 255) (hc4 : v.size ≤ 255) (hc5 : ¬ (0 ≤ p)) (H0 : Hid (∀ W, Calls Try.prog 35 #[.agg #[.int .i64 0, .int .i64 rk, .string i, .string v, .float .f64 t, .int .i64 p, .int .u64 (n : Int), .slice oa m cap, .int .i64 to, .int .i64 pl]] W fun e w' => e = .returned (.bool true) ∧ Below W.heap.size W w')) :
    Calls Try.prog 17 #[.agg #[.int .i64 0, .int .i64 rk, .string i, .string v, .float .f64 t, .int .i64 p, .int .u64 (n : Int), .slice oa m cap, .int .i64 to, .int .i64 pl]] w fun e w' => e = .returned (.bool false) ∧ Below w.heap.size w w' := by
  have g0_0 : ((n : Int) == 0) = true := beq_iff_eq.2 (by omega)
  have g0_1 : ((n : Int) = 0) = True := eq_true (by omega)
  have g0_2 : (n = 0) = True := eq_true (by omega)
  have g1_0 : decide (rk ≥ 0) = true := decide_eq_true (by omega)
  have g1_1 : (0 ≤ rk) = True := eq_true (by omega)
  have g1_2 : decide (0 ≤ rk) = true := decide_eq_true (by omega)
  have g2_0 : decide (rk ≤ 255) = true := decide_eq_true (by omega)
  have g2_1 : (rk ≤ 255) = True := eq_true (by omega)
  have g3_0 : decide ((i.size : Int) ≤ 255) = true := decide_eq_true (by omega)
  have g3_1 : ((i.size : Int) ≤ 255) = True := eq_true (by omega)
  have g3_2 : (i.size ≤ 255) = True := eq_true (by omega)
  have g4_0 : decide ((v.size : Int) ≤ 255) = true := decide_eq_true (by omega)
  have g4_1 : ((v.size : Int) ≤ 255) = True := eq_true (by omega)
  have g4_2 : (v.size ≤ 255) = True := eq_true (by omega)
  have g5_0 : decide (p ≥ 0) = false := decide_eq_false (by omega)
  have g5_1 : (0 ≤ p) = False := eq_false (by omega)
  have g5_2 : decide (0 ≤ p) = false := decide_eq_false (by omega)
  clear hc0 hc1 hc2 hc3 hc4 hc5
  have b0 := alloc_below w (.cells #[.int .i64 0, .int .i64 rk, .string i, .string v, .float .f64 t, .int .i64 p, .int .u64 (n : Int), .slice oa m cap, .int .i64 to, .int .i64 pl] 47)
  have n0 := heap_alloc_new w (.cells #[.int .i64 0, .int .i64 rk, .string i, .string v, .float .f64 t, .int .i64 p, .int .u64 (n : Int), .slice oa m cap, .int .i64 to, .int .i64 pl] 47)
  have B0 := Lib.hid b0
  have N0 := Lib.hid n0
  clear b0 n0
  go_enter Try.func17, Try.ntmps17
  go_wp2_with fail
  refine (H0.out _).mono ?_; rintro e v0 ⟨rfl, d0⟩
  have B1 := Lib.hid (stepQ B0.out d0)
  have N1 := Lib.hid ((d0.block _ (lt_of_rowQ N0.out)).trans N0.out)
  obtain ⟨c0, c1, c2, c3, c4, c5, c6, c7, c8, c9⟩ := ract_cells N1.out
  clear d0 N0
  go_wp2_with fail
  go_ret
  exact ⟨rfl, B1.out⟩
set_option maxRecDepth 100000 in
set_option maxHeartbeats 4000000 in
theorem rR0_6 (w : World) (rk p to pl : Int) (i v : ByteArray) (t n m cap : Nat) (oa : Option Addr) (hc0 : n = 0) (hc1 : 0 ≤ rk) (hc2 : rk ≤ 255) (hc3 : i.size ≤ 255) (hc4 : v.size ≤ 255) (hc5 : 0 ≤ p) (hc6 : ¬ (p ≤ 255)) (H0 : Hid (∀ W, Calls Try.prog 35 #[.agg #[.int .i64 0, .int .i64 rk, .string i, .string v, .float .f64 t, .int .i64 p, .int .u64 (n : Int), .slice oa m cap, .int .i64 to, .int .i64 pl]] W fun e w' => e = .returned (.bool true) ∧ Below W.heap.size W w')) :
    Calls Try.prog 17 #[.agg #[.int .i64 0, .int .i64 rk, .string i, .string v, .float .f64 t, .int .i64 p, .int .u64 (n : Int), .slice oa m cap, .int .i64 to, .int .i64 pl]] w fun e w' => e = .returned (.bool false) ∧ Below w.heap.size w w' := by
  have g0_0 : ((n : Int) == 0) = true := beq_iff_eq.2 (by omega)
  have g0_1 : ((n : Int) = 0) = True := eq_true (by omega)
  have g0_2 : (n = 0) = True := eq_true (by omega)
  have g1_0 : decide (rk ≥ 0) = true := decide_eq_true (by omega)
  have g1_1 : (0 ≤ rk) = True := eq_true (by omega)
  have g1_2 : decide (0 ≤ rk) = true := decide_eq_true (by omega)
  have g2_0 : decide (rk ≤ 255) = true := decide_eq_true (by omega)
  have g2_1 : (rk ≤ 255) = True := eq_true (by omega)
  have g3_0 : decide ((i.size : Int) ≤ 255) = true := decide_eq_true (by omega)
  have g3_1 : ((i.size : Int) ≤ 255) = True := eq_true (by omega)
  have g3_2 : (i.size ≤ 255) = True := eq_true (by omega)
  have g4_0 : decide ((v.size : Int) ≤ 255) = true := decide_eq_true (by omega)
  have g4_1 : ((v.size : Int) ≤ 255) = True := eq_true (by omega)
  have g4_2 : (v.size ≤ 255) = True := eq_true (by omega)
  have g5_0 : decide (p ≥ 0) = true := decide_eq_true (by omega)
  have g5_1 : (0 ≤ p) = True := eq_true (by omega)
  have g5_2 : decide (0 ≤ p) = true := decide_eq_true (by omega)
  have g6_0 : decide (p ≤ 255) = false := decide_eq_false (by omega)
  have g6_1 : (p ≤ 255) = False := eq_false (by omega)
  clear hc0 hc1 hc2 hc3 hc4 hc5 hc6
  have b0 := alloc_below w (.cells #[.int .i64 0, .int .i64 rk, .string i, .string v, .float .f64 t, .int .i64 p, .int .u64 (n : Int), .slice oa m cap, .int .i64 to, .int .i64 pl] 47)
  have n0 := heap_alloc_new w (.cells #[.int .i64 0, .int .i64 rk, .string i, .string v, .float .f64 t, .int .i64 p, .int .u64 (n : Int), .slice oa m cap, .int .i64 to, .int .i64 pl] 47)
  have B0 := Lib.hid b0
  have N0 := Lib.hid n0
  clear b0 n0
  go_enter Try.func17, Try.ntmps17
  go_wp2_with fail
  refine (H0.out _).mono ?_; rintro e v0 ⟨rfl, d0⟩
  have B1 := Lib.hid (stepQ B0.out d0)
  have N1 := Lib.hid ((d0.block _ (lt_of_rowQ N0.out)).trans N0.out)
  obtain ⟨c0, c1, c2, c3, c4, c5, c6, c7, c8, c9⟩ := ract_cells N1.out
  clear d0 N0
  go_wp2_with fail
  go_ret
  exact ⟨rfl, B1.out⟩
set_option maxRecDepth 100000 in
set_option maxHeartbeats 4000000 in
theorem rR0_t (w : World) (rk p to pl : Int) (i v : ByteArray) (t n m cap : Nat) (oa : Option Addr) (hc0 : n = 0) (hc1 : 0 ≤ rk) (hc2 : rk ≤ 255) (hc3 : i.size ≤ 255) (hc4 : v.size ≤ 255) (hc5 : 0 ≤ p) (hc6 : p ≤ 255) (H0 : Hid (∀ W, Calls Try.prog 35 #[.agg #[.int .i64 0, .int .i64 rk, .string i, .string v, .float .f64 t, .int .i64 p, .int .u64 (n : Int), .slice oa m cap, .int .i64 to, .int .i64 pl]] W fun e w' => e = .returned (.bool true) ∧ Below W.heap.size W w')) :
    Calls Try.prog 17 #[.agg #[.int .i64 0, .int .i64 rk, .string i, .string v, .float .f64 t, .int .i64 p, .int .u64 (n : Int), .slice oa m cap, .int .i64 to, .int .i64 pl]] w fun e w' => e = .returned (.bool true) ∧ Below w.heap.size w w' := by
  have g0_0 : ((n : Int) == 0) = true := beq_iff_eq.2 (by omega)
  have g0_1 : ((n : Int) = 0) = True := eq_true (by omega)
  have g0_2 : (n = 0) = True := eq_true (by omega)
  have g1_0 : decide (rk ≥ 0) = true := decide_eq_true (by omega)
  have g1_1 : (0 ≤ rk) = True := eq_true (by omega)
  have g1_2 : decide (0 ≤ rk) = true := decide_eq_true (by omega)
  have g2_0 : decide (rk ≤ 255) = true := decide_eq_true (by omega)
  have g2_1 : (rk ≤ 255) = True := eq_true (by omega)
  have g3_0 : decide ((i.size : Int) ≤ 255) = true := decide_eq_true (by omega)
  have g3_1 : ((i.size : Int) ≤ 255) = True := eq_true (by omega)
  have g3_2 : (i.size ≤ 255) = True := eq_true (by omega)
  have g4_0 : decide ((v.size : Int) ≤ 255) = true := decide_eq_true (by omega)
  have g4_1 : ((v.size : Int) ≤ 255) = True := eq_true (by omega)
  have g4_2 : (v.size ≤ 255) = True := eq_true (by omega)
  have g5_0 : decide (p ≥ 0) = true := decide_eq_true (by omega)
  have g5_1 : (0 ≤ p) = True := eq_true (by omega)
  have g5_2 : decide (0 ≤ p) = true := decide_eq_true (by omega)
  have g6_0 : decide (p ≤ 255) = true := decide_eq_true (by omega)
  have g6_1 : (p ≤ 255) = True := eq_true (by omega)
  clear hc0 hc1 hc2 hc3 hc4 hc5 hc6
  have b0 := alloc_below w (.cells #[.int .i64 0, .int .i64 rk, .string i, .string v, .float .f64 t, .int .i64 p, .int .u64 (n : Int), .slice oa m cap, .int .i64 to, .int .i64 pl] 47)
  have n0 := heap_alloc_new w (.cells #[.int .i64 0, .int .i64 rk, .string i, .string v, .float .f64 t, .int .i64 p, .int .u64 (n : Int), .slice oa m cap, .int .i64 to, .int .i64 pl] 47)
  have B0 := Lib.hid b0
  have N0 := Lib.hid n0
  clear b0 n0
  go_enter Try.func17, Try.ntmps17
  go_wp2_with fail
  refine (H0.out _).mono ?_; rintro e v0 ⟨rfl, d0⟩
  have B1 := Lib.hid (stepQ B0.out d0)
  have N1 := Lib.hid ((d0.block _ (lt_of_rowQ N0.out)).trans N0.out)
  obtain ⟨c0, c1, c2, c3, c4, c5, c6, c7, c8, c9⟩ := ract_cells N1.out
  clear d0 N0
  go_wp2_with fail
  go_ret
  exact ⟨rfl, B1.out⟩
set_option maxRecDepth 100000 in
set_option maxHeartbeats 4000000 in
theorem rR1_p (w : World) (rk p to pl : Int) (i v : ByteArray) (t n m cap : Nat) (oa : Option Addr)  (H0 : Hid (∀ W, Calls Try.prog 36 #[.agg #[.int .i64 1, .int .i64 rk, .string i, .string v, .float .f64 t, .int .i64 p, .int .u64 (n : Int), .slice oa m cap, .int .i64 to, .int .i64 pl]] W fun e w' => e = .returned (.bool false) ∧ Below W.heap.size W w')) :
    Calls Try.prog 17 #[.agg #[.int .i64 1, .int .i64 rk, .string i, .string v, .float .f64 t, .int .i64 p, .int .u64 (n : Int), .slice oa m cap, .int .i64 to, .int .i64 pl]] w fun e w' => e = .returned (.bool false) ∧ Below w.heap.size w w' := by
  have b0 := alloc_below w (.cells #[.int .i64 1, .int .i64 rk, .string i, .string v, .float .f64 t, .int .i64 p, .int .u64 (n : Int), .slice oa m cap, .int .i64 to, .int .i64 pl] 47)
  have n0 := heap_alloc_new w (.cells #[.int .i64 1, .int .i64 rk, .string i, .string v, .float .f64 t, .int .i64 p, .int .u64 (n : Int), .slice oa m cap, .int .i64 to, .int .i64 pl] 47)
  have B0 := Lib.hid b0
  have N0 := Lib.hid n0
  clear b0 n0
  go_enter Try.func17, Try.ntmps17
  go_wp2_with fail
  refine (H0.out _).mono ?_; rintro e v0 ⟨rfl, d0⟩
  have B1 := Lib.hid (stepQ B0.out d0)
  have N1 := Lib.hid ((d0.block _ (lt_of_rowQ N0.out)).trans N0.out)
  obtain ⟨c0, c1, c2, c3, c4, c5, c6, c7, c8, c9⟩ := ract_cells N1.out
  clear d0 N0
  go_wp2_with fail
  go_ret
  exact ⟨rfl, B1.out⟩
set_option maxRecDepth 100000 in
set_option maxHeartbeats 4000000 in
theorem rR1_w (w : World) (rk p to pl : Int) (i v : ByteArray) (t n m cap : Nat) (oa : Option Addr)  (H0 : Hid (∀ W, Calls Try.prog 36 #[.agg #[.int .i64 1, .int .i64 rk, .string i, .string v, .float .f64 t, .int .i64 p, .int .u64 (n : Int), .slice oa m cap, .int .i64 to, .int .i64 pl]] W fun e w' => e = .returned (.bool true) ∧ Below W.heap.size W w')) (H1 : Hid (∀ W, Calls Try.prog 35 #[.agg #[.int .i64 1, .int .i64 rk, .string i, .string v, .float .f64 t, .int .i64 p, .int .u64 (n : Int), .slice oa m cap, .int .i64 to, .int .i64 pl]] W fun e w' => e = .returned (.bool false) ∧ Below W.heap.size W w')) :
    Calls Try.prog 17 #[.agg #[.int .i64 1, .int .i64 rk, .string i, .string v, .float .f64 t, .int .i64 p, .int .u64 (n : Int), .slice oa m cap, .int .i64 to, .int .i64 pl]] w fun e w' => e = .returned (.bool false) ∧ Below w.heap.size w w' := by
  have b0 := alloc_below w (.cells #[.int .i64 1, .int .i64 rk, .string i, .string v, .float .f64 t, .int .i64 p, .int .u64 (n : Int), .slice oa m cap, .int .i64 to, .int .i64 pl] 47)
  have n0 := heap_alloc_new w (.cells #[.int .i64 1, .int .i64 rk, .string i, .string v, .float .f64 t, .int .i64 p, .int .u64 (n : Int), .slice oa m cap, .int .i64 to, .int .i64 pl] 47)
  have B0 := Lib.hid b0
  have N0 := Lib.hid n0
  clear b0 n0
  go_enter Try.func17, Try.ntmps17
  go_wp2_with fail
  refine (H0.out _).mono ?_; rintro e v0 ⟨rfl, d0⟩
  have B1 := Lib.hid (stepQ B0.out d0)
  have N1 := Lib.hid ((d0.block _ (lt_of_rowQ N0.out)).trans N0.out)
  obtain ⟨c0, c1, c2, c3, c4, c5, c6, c7, c8, c9⟩ := ract_cells N1.out
  clear d0 N0
  go_wp2_with fail
  clear c0 c1 c2 c3 c4 c5 c6 c7 c8 c9
  refine (H1.out _).mono ?_; rintro e v1 ⟨rfl, d1⟩
  have B2 := Lib.hid (stepQ B1.out d1)
  have N2 := Lib.hid ((d1.block _ (lt_of_rowQ N1.out)).trans N1.out)
  obtain ⟨c0, c1, c2, c3, c4, c5, c6, c7, c8, c9⟩ := ract_cells N2.out
  clear d1 N1
  go_wp2_with fail
  go_ret
  exact ⟨rfl, B2.out⟩
set_option maxRecDepth 100000 in
set_option maxHeartbeats 4000000 in
theorem rR1_t (w : World) (rk p to pl : Int) (i v : ByteArray) (t n m cap : Nat) (oa : Option Addr)  (H0 : Hid (∀ W, Calls Try.prog 36 #[.agg #[.int .i64 1, .int .i64 rk, .string i, .string v, .float .f64 t, .int .i64 p, .int .u64 (n : Int), .slice oa m cap, .int .i64 to, .int .i64 pl]] W fun e w' => e = .returned (.bool true) ∧ Below W.heap.size W w')) (H1 : Hid (∀ W, Calls Try.prog 35 #[.agg #[.int .i64 1, .int .i64 rk, .string i, .string v, .float .f64 t, .int .i64 p, .int .u64 (n : Int), .slice oa m cap, .int .i64 to, .int .i64 pl]] W fun e w' => e = .returned (.bool true) ∧ Below W.heap.size W w')) :
    Calls Try.prog 17 #[.agg #[.int .i64 1, .int .i64 rk, .string i, .string v, .float .f64 t, .int .i64 p, .int .u64 (n : Int), .slice oa m cap, .int .i64 to, .int .i64 pl]] w fun e w' => e = .returned (.bool true) ∧ Below w.heap.size w w' := by
  have b0 := alloc_below w (.cells #[.int .i64 1, .int .i64 rk, .string i, .string v, .float .f64 t, .int .i64 p, .int .u64 (n : Int), .slice oa m cap, .int .i64 to, .int .i64 pl] 47)
  have n0 := heap_alloc_new w (.cells #[.int .i64 1, .int .i64 rk, .string i, .string v, .float .f64 t, .int .i64 p, .int .u64 (n : Int), .slice oa m cap, .int .i64 to, .int .i64 pl] 47)
  have B0 := Lib.hid b0
  have N0 := Lib.hid n0
  clear b0 n0
  go_enter Try.func17, Try.ntmps17
  go_wp2_with fail
  refine (H0.out _).mono ?_; rintro e v0 ⟨rfl, d0⟩
  have B1 := Lib.hid (stepQ B0.out d0)
  have N1 := Lib.hid ((d0.block _ (lt_of_rowQ N0.out)).trans N0.out)
  obtain ⟨c0, c1, c2, c3, c4, c5, c6, c7, c8, c9⟩ := ract_cells N1.out
  clear d0 N0
  go_wp2_with fail
  clear c0 c1 c2 c3 c4 c5 c6 c7 c8 c9
  refine (H1.out _).mono ?_; rintro e v1 ⟨rfl, d1⟩
  have B2 := Lib.hid (stepQ B1.out d1)
  have N2 := Lib.hid ((d1.block _ (lt_of_rowQ N1.out)).trans N1.out)
  obtain ⟨c0, c1, c2, c3, c4, c5, c6, c7, c8, c9⟩ := ract_cells N2.out
  clear d1 N1
  go_wp2_with fail
  go_ret
  exact ⟨rfl, B2.out⟩
set_option maxRecDepth 100000 in
set_option maxHeartbeats 4000000 in
theorem rR2_p (w : World) (rk p to pl : Int) (i v : ByteArray) (t n m cap : Nat) (oa : Option Addr)  (H0 : Hid (∀ W, Calls Try.prog 36 #[.agg #[.int .i64 2, .int .i64 rk, .string i, .string v, .float .f64 t, .int .i64 p, .int .u64 (n : Int), .slice oa m cap, .int .i64 to, .int .i64 pl]] W fun e w' => e = .returned (.bool false) ∧ Below W.heap.size W w')) :
    Calls Try.prog 17 #[.agg #[.int .i64 2, .int .i64 rk, .string i, .string v, .float .f64 t, .int .i64 p, .int .u64 (n : Int), .slice oa m cap, .int .i64 to, .int .i64 pl]] w fun e w' => e = .returned (.bool false) ∧ Below w.heap.size w w' := by
  have b0 := alloc_below w (.cells #[.int .i64 2, .int .i64 rk, .string i, .string v, .float .f64 t, .int .i64 p, .int .u64 (n : Int), .slice oa m cap, .int .i64 to, .int .i64 pl] 47)
  have n0 := heap_alloc_new w (.cells #[.int .i64 2, .int .i64 rk, .string i, .string v, .float .f64 t, .int .i64 p, .int .u64 (n : Int), .slice oa m cap, .int .i64 to, .int .i64 pl] 47)
  have B0 := Lib.hid b0
  have N0 := Lib.hid n0
  clear b0 n0
  go_enter Try.func17, Try.ntmps17
  go_wp2_with fail
  refine (H0.out _).mono ?_; rintro e v0 ⟨rfl, d0⟩
  have B1 := Lib.hid (stepQ B0.out d0)
  have N1 := Lib.hid ((d0.block _ (lt_of_rowQ N0.out)).trans N0.out)
  obtain ⟨c0, c1, c2, c3, c4, c5, c6, c7, c8, c9⟩ := ract_cells N1.out
  clear d0 N0
  go_wp2_with fail
  go_ret
  exact ⟨rfl, B1.out⟩
set_option maxRecDepth 100000 in
set_option maxHeartbeats 4000000 in
theorem rR2_w (w : World) (rk p to pl : Int) (i v : ByteArray) (t n m cap : Nat) (oa : Option Addr)  (H0 : Hid (∀ W, Calls Try.prog 36 #[.agg #[.int .i64 2, .int .i64 rk, .string i, .string v, .float .f64 t, .int .i64 p, .int .u64 (n : Int), .slice oa m cap, .int .i64 to, .int .i64 pl]] W fun e w' => e = .returned (.bool true) ∧ Below W.heap.size W w')) (H1 : Hid (∀ W, Calls Try.prog 35 #[.agg #[.int .i64 2, .int .i64 rk, .string i, .string v, .float .f64 t, .int .i64 p, .int .u64 (n : Int), .slice oa m cap, .int .i64 to, .int .i64 pl]] W fun e w' => e = .returned (.bool false) ∧ Below W.heap.size W w')) :
    Calls Try.prog 17 #[.agg #[.int .i64 2, .int .i64 rk, .string i, .string v, .float .f64 t, .int .i64 p, .int .u64 (n : Int), .slice oa m cap, .int .i64 to, .int .i64 pl]] w fun e w' => e = .returned (.bool false) ∧ Below w.heap.size w w' := by
  have b0 := alloc_below w (.cells #[.int .i64 2, .int .i64 rk, .string i, .string v, .float .f64 t, .int .i64 p, .int .u64 (n : Int), .slice oa m cap, .int .i64 to, .int .i64 pl] 47)
  have n0 := heap_alloc_new w (.cells #[.int .i64 2, .int .i64 rk, .string i, .string v, .float .f64 t, .int .i64 p, .int .u64 (n : Int), .slice oa m cap, .int .i64 to, .int .i64 pl] 47)
  have B0 := Lib.hid b0
  have N0 := Lib.hid n0
  clear b0 n0
  go_enter Try.func17, Try.ntmps17
  go_wp2_with fail
  refine (H0.out _).mono ?_; rintro e v0 ⟨rfl, d0⟩
  have B1 := Lib.hid (stepQ B0.out d0)
  have N1 := Lib.hid ((d0.block _ (lt_of_rowQ N0.out)).trans N0.out)
  obtain ⟨c0, c1, c2, c3, c4, c5, c6, c7, c8, c9⟩ := ract_cells N1.out
  clear d0 N0
  go_wp2_with fail
  clear c0 c1 c2 c3 c4 c5 c6 c7 c8 c9
  refine (H1.out _).mono ?_; rintro e v1 ⟨rfl, d1⟩
  have B2 := Lib.hid (stepQ B1.out d1)
  have N2 := Lib.hid ((d1.block _ (lt_of_rowQ N1.out)).trans N1.out)
  obtain ⟨c0, c1, c2, c3, c4, c5, c6, c7, c8, c9⟩ := ract_cells N2.out
  clear d1 N1
  go_wp2_with fail
  go_ret
  exact ⟨rfl, B2.out⟩
set_option maxRecDepth 100000 in
set_option maxHeartbeats 4000000 in
theorem rR2_0 (w : World) (rk p to pl : Int) (i v : ByteArray) (t n m cap : Nat) (oa : Option Addr) (hc0 : ¬ (n ≤ 255)) (H0 : Hid (∀ W, Calls Try.prog 36 #[.agg #[.int .i64 2, .int .i64 rk, .string i, .string v, .float .f64 t, .int .i64 p, .int .u64 (n : Int), .slice oa m cap, .int .i64 to, .int .i64 pl]] W fun e w' => e = .returned (.bool true) ∧ Below W.heap.size W w')) (H1 : Hid (∀ W, Calls Try.prog 35 #[.agg #[.int .i64 2, .int .i64 rk, .string i, .string v, .float .f64 t, .int .i64 p, .int .u64 (n : Int), .slice oa m cap, .int .i64 to, .int .i64 pl]] W fun e w' => e = .returned (.bool true) ∧ Below W.heap.size W w')) :
    Calls Try.prog 17 #[.agg #[.int .i64 2, .int .i64 rk, .string i, .string v, .float .f64 t, .int .i64 p, .int .u64 (n : Int), .slice oa m cap, .int .i64 to, .int .i64 pl]] w fun e w' => e = .returned (.bool false) ∧ Below w.heap.size w w' := by
  have g0_0 : decide ((n : Int) ≤ 255) = false := decide_eq_false (by omega)
  have g0_1 : ((n : Int) ≤ 255) = False := eq_false (by omega)
  have g0_2 : (n ≤ 255) = False := eq_false (by omega)
  clear hc0
  have b0 := alloc_below w (.cells #[.int .i64 2, .int .i64 rk, .string i, .string v, .float .f64 t, .int .i64 p, .int .u64 (n : Int), .slice oa m cap, .int .i64 to, .int .i64 pl] 47)
  have n0 := heap_alloc_new w (.cells #[.int .i64 2, .int .i64 rk, .string i, .string v, .float .f64 t, .int .i64 p, .int .u64 (n : Int), .slice oa m cap, .int .i64 to, .int .i64 pl] 47)
  have B0 := Lib.hid b0
  have N0 := Lib.hid n0
  clear b0 n0
  go_enter Try.func17, Try.ntmps17
  go_wp2_with fail
  refine (H0.out _).mono ?_; rintro e v0 ⟨rfl, d0⟩
  have B1 := Lib.hid (stepQ B0.out d0)
  have N1 := Lib.hid ((d0.block _ (lt_of_rowQ N0.out)).trans N0.out)
  obtain ⟨c0, c1, c2, c3, c4, c5, c6, c7, c8, c9⟩ := ract_cells N1.out
  clear d0 N0
  go_wp2_with fail
  clear c0 c1 c2 c3 c4 c5 c6 c7 c8 c9
  refine (H1.out _).mono ?_; rintro e v1 ⟨rfl, d1⟩
  have B2 := Lib.hid (stepQ B1.out d1)
  have N2 := Lib.hid ((d1.block _ (lt_of_rowQ N1.out)).trans N1.out)
  obtain ⟨c0, c1, c2, c3, c4, c5, c6, c7, c8, c9⟩ := ract_cells N2.out
  clear d1 N1
  go_wp2_with fail
  go_ret
  exact ⟨rfl, B2.out⟩
set_option maxRecDepth 100000 in
set_option maxHeartbeats 4000000 in
theorem rR2_t (w : World) (rk p to pl : Int) (i v : ByteArray) (t n m cap : Nat) (oa : Option Addr) (hc0 : n ≤ 255) (H0 : Hid (∀ W, Calls Try.prog 36 #[.agg #[.int .i64 2, .int .i64 rk, .string i, .string v, .float .f64 t, .int .i64 p, .int .u64 (n : Int), .slice oa m cap, .int .i64 to, .int .i64 pl]] W fun e w' => e = .returned (.bool true) ∧ Below W.heap.size W w')) (H1 : Hid (∀ W, Calls Try.prog 35 #[.agg #[.int .i64 2, .int .i64 rk, .string i, .string v, .float .f64 t, .int .i64 p, .int .u64 (n : Int), .slice oa m cap, .int .i64 to, .int .i64 pl]] W fun e w' => e = .returned (.bool true) ∧ Below W.heap.size W w')) :
    Calls Try.prog 17 #[.agg #[.int .i64 2, .int .i64 rk, .string i, .string v, .float .f64 t, .int .i64 p, .int .u64 (n : Int), .slice oa m cap, .int .i64 to, .int .i64 pl]] w fun e w' => e = .returned (.bool true) ∧ Below w.heap.size w w' := by
  have g0_0 : decide ((n : Int) ≤ 255) = true := decide_eq_true (by omega)
  have g0_1 : ((n : Int) ≤ 255) = True := eq_true (by omega)
  have g0_2 : (n ≤ 255) = True := eq_true (by omega)
  clear hc0
  have b0 := alloc_below w (.cells #[.int .i64 2, .int .i64 rk, .string i, .string v, .float .f64 t, .int .i64 p, .int .u64 (n : Int), .slice oa m cap, .int .i64 to, .int .i64 pl] 47)
  have n0 := heap_alloc_new w (.cells #[.int .i64 2, .int .i64 rk, .string i, .string v, .float .f64 t, .int .i64 p, .int .u64 (n : Int), .slice oa m cap, .int .i64 to, .int .i64 pl] 47)
  have B0 := Lib.hid b0
  have N0 := Lib.hid n0
  clear b0 n0
  go_enter Try.func17, Try.ntmps17
  go_wp2_with fail
  refine (H0.out _).mono ?_; rintro e v0 ⟨rfl, d0⟩
  have B1 := Lib.hid (stepQ B0.out d0)
  have N1 := Lib.hid ((d0.block _ (lt_of_rowQ N0.out)).trans N0.out)
  obtain ⟨c0, c1, c2, c3, c4, c5, c6, c7, c8, c9⟩ := ract_cells N1.out
  clear d0 N0
  go_wp2_with fail
  clear c0 c1 c2 c3 c4 c5 c6 c7 c8 c9
  refine (H1.out _).mono ?_; rintro e v1 ⟨rfl, d1⟩
  have B2 := Lib.hid (stepQ B1.out d1)
  have N2 := Lib.hid ((d1.block _ (lt_of_rowQ N1.out)).trans N1.out)
  obtain ⟨c0, c1, c2, c3, c4, c5, c6, c7, c8, c9⟩ := ract_cells N2.out
  clear d1 N1
  go_wp2_with fail
  go_ret
  exact ⟨rfl, B2.out⟩
set_option maxRecDepth 100000 in
set_option maxHeartbeats 4000000 in
theorem rR3_p (w : World) (rk p to pl : Int) (i v : ByteArray) (t n m cap : Nat) (oa : Option Addr)  (H0 : Hid (∀ W, Calls Try.prog 36 #[.agg #[.int .i64 3, .int .i64 rk, .string i, .string v, .float .f64 t, .int .i64 p, .int .u64 (n : Int), .slice oa m cap, .int .i64 to, .int .i64 pl]] W fun e w' => e = .returned (.bool false) ∧ Below W.heap.size W w')) :
    Calls Try.prog 17 #[.agg #[.int .i64 3, .int .i64 rk, .string i, .string v, .float .f64 t, .int .i64 p, .int .u64 (n : Int), .slice oa m cap, .int .i64 to, .int .i64 pl]] w fun e w' => e = .returned (.bool false) ∧ Below w.heap.size w w' := by
  have b0 := alloc_below w (.cells #[.int .i64 3, .int .i64 rk, .string i, .string v, .float .f64 t, .int .i64 p, .int .u64 (n : Int), .slice oa m cap, .int .i64 to, .int .i64 pl] 47)
  have n0 := heap_alloc_new w (.cells #[.int .i64 3, .int .i64 rk, .string i, .string v, .float .f64 t, .int .i64 p, .int .u64 (n : Int), .slice oa m cap, .int .i64 to, .int .i64 pl] 47)
  have B0 := Lib.hid b0
  have N0 := Lib.hid n0
  clear b0 n0
  go_enter Try.func17, Try.ntmps17
  go_wp2_with fail
  refine (H0.out _).mono ?_; rintro e v0 ⟨rfl, d0⟩
  have B1 := Lib.hid (stepQ B0.out d0)
  have N1 := Lib.hid ((d0.block _ (lt_of_rowQ N0.out)).trans N0.out)
  obtain ⟨c0, c1, c2, c3, c4, c5, c6, c7, c8, c9⟩ := ract_cells N1.out
  clear d0 N0
  go_wp2_with fail
  go_ret
  exact ⟨rfl, B1.out⟩
set_option maxRecDepth 100000 in
set_option maxHeartbeats 4000000 in
theorem rR3_w (w : World) (rk p to pl : Int) (i v : ByteArray) (t n m cap : Nat) (oa : Option Addr)  (H0 : Hid (∀ W, Calls Try.prog 36 #[.agg #[.int .i64 3, .int .i64 rk, .string i, .string v, .float .f64 t, .int .i64 p, .int .u64 (n : Int), .slice oa m cap, .int .i64 to, .int .i64 pl]] W fun e w' => e = .returned (.bool true) ∧ Below W.heap.size W w')) (H1 : Hid (∀ W, Calls Try.prog 35 #[.agg #[.int .i64 3, .int .i64 rk, .string i, .string v, .float .f64 t, .int .i64 p, .int .u64 (n : Int), .slice oa m cap, .int .i64 to, .int .i64 pl]] W fun e w' => e = .returned (.bool false) ∧ Below W.heap.size W w')) :
    Calls Try.prog 17 #[.agg #[.int .i64 3, .int .i64 rk, .string i, .string v, .float .f64 t, .int .i64 p, .int .u64 (n : Int), .slice oa m cap, .int .i64 to, .int .i64 pl]] w fun e w' => e = .returned (.bool false) ∧ Below w.heap.size w w' := by
  have b0 := alloc_below w (.cells #[.int .i64 3, .int .i64 rk, .string i, .string v, .float .f64 t, .int .i64 p, .int .u64 (n : Int), .slice oa m cap, .int .i64 to, .int .i64 pl] 47)
  have n0 := heap_alloc_new w (.cells #[.int .i64 3, .int .i64 rk, .string i, .string v, .float .f64 t, .int .i64 p, .int .u64 (n : Int), .slice oa m cap, .int .i64 to, .int .i64 pl] 47)
  have B0 := Lib.hid b0
  have N0 := Lib.hid n0
  clear b0 n0
  go_enter Try.func17, Try.ntmps17
  go_wp2_with fail
  refine (H0.out _).mono ?_; rintro e v0 ⟨rfl, d0⟩
  have B1 := Lib.hid (stepQ B0.out d0)
  have N1 := Lib.hid ((d0.block _ (lt_of_rowQ N0.out)).trans N0.out)
  obtain ⟨c0, c1, c2, c3, c4, c5, c6, c7, c8, c9⟩ := ract_cells N1.out
  clear d0 N0
  go_wp2_with fail
  clear c0 c1 c2 c3 c4 c5 c6 c7 c8 c9
  refine (H1.out _).mono ?_; rintro e v1 ⟨rfl, d1⟩
  have B2 := Lib.hid (stepQ B1.out d1)
  have N2 := Lib.hid ((d1.block _ (lt_of_rowQ N1.out)).trans N1.out)
  obtain ⟨c0, c1, c2, c3, c4, c5, c6, c7, c8, c9⟩ := ract_cells N2.out
  clear d1 N1
  go_wp2_with fail
  go_ret
  exact ⟨rfl, B2.out⟩
set_option maxRecDepth 100000 in
set_option maxHeartbeats 4000000 in
theorem rR3_0 (w : World) (rk p to pl : Int) (i v : ByteArray) (t n m cap : Nat) (oa : Option Addr) (hc0 : ¬ (n = 0)) (H0 : Hid (∀ W, Calls Try.prog 36 #[.agg #[.int .i64 3, .int .i64 rk, .string i, .string v, .float .f64 t, .int .i64 p, .int .u64 (n : Int), .slice oa m cap, .int .i64 to, .int .i64 pl]] W fun e w' => e = .returned (.bool true) ∧ Below W.heap.size W w')) (H1 : Hid (∀ W, Calls Try.prog 35 #[.agg #[.int .i64 3, .int .i64 rk, .string i, .string v, .float .f64 t, .int .i64 p, .int .u64 (n : Int), .slice oa m cap, .int .i64 to, .int .i64 pl]] W fun e w' => e = .returned (.bool true) ∧ Below W.heap.size W w')) :
    Calls Try.prog 17 #[.agg #[.int .i64 3, .int .i64 rk, .string i, .string v, .float .f64 t, .int .i64 p, .int .u64 (n : Int), .slice oa m cap, .int .i64 to, .int .i64 pl]] w fun e w' => e = .returned (.bool false) ∧ Below w.heap.size w w' := by
  have g0_0 : ((n : Int) == 0) = false := beq_eq_false_iff_ne.2 (by omega)
  have g0_1 : ((n : Int) = 0) = False := eq_false (by omega)
  have g0_2 : (n = 0) = False := eq_false (by omega)
  clear hc0
  have b0 := alloc_below w (.cells #[.int .i64 3, .int .i64 rk, .string i, .string v, .float .f64 t, .int .i64 p, .int .u64 (n : Int), .slice oa m cap, .int .i64 to, .int .i64 pl] 47)
  have n0 := heap_alloc_new w (.cells #[.int .i64 3, .int .i64 rk, .string i, .string v, .float .f64 t, .int .i64 p, .int .u64 (n : Int), .slice oa m cap, .int .i64 to, .int .i64 pl] 47)
  have B0 := Lib.hid b0
  have N0 := Lib.hid n0
  clear b0 n0
  go_enter Try.func17, Try.ntmps17
  go_wp2_with fail
  refine (H0.out _).mono ?_; rintro e v0 ⟨rfl, d0⟩
  have B1 := Lib.hid (stepQ B0.out d0)
  have N1 := Lib.hid ((d0.block _ (lt_of_rowQ N0.out)).trans N0.out)
  obtain ⟨c0, c1, c2, c3, c4, c5, c6, c7, c8, c9⟩ := ract_cells N1.out
  clear d0 N0
  go_wp2_with fail
  clear c0 c1 c2 c3 c4 c5 c6 c7 c8 c9
  refine (H1.out _).mono ?_; rintro e v1 ⟨rfl, d1⟩
  have B2 := Lib.hid (stepQ B1.out d1)
  have N2 := Lib.hid ((d1.block _ (lt_of_rowQ N1.out)).trans N1.out)
  obtain ⟨c0, c1, c2, c3, c4, c5, c6, c7, c8, c9⟩ := ract_cells N2.out
  clear d1 N1
  go_wp2_with fail
  go_ret
  exact ⟨rfl, B2.out⟩
set_option maxRecDepth 100000 in
set_option maxHeartbeats 4000000 in
theorem rR3_t (w : World) (rk p to pl : Int) (i v : ByteArray) (t n m cap : Nat) (oa : Option Addr) (hc0 : n = 0) (H0 : Hid (∀ W, Calls Try.prog 36 #[.agg #[.int .i64 3, .int .i64 rk, .string i, .string v, .float .f64 t, .int .i64 p, .int .u64 (n : Int), .slice oa m cap, .int .i64 to, .int .i64 pl]] W fun e w' => e = .returned (.bool true) ∧ Below W.heap.size W w')) (H1 : Hid (∀ W, Calls Try.prog 35 #[.agg #[.int .i64 3, .int .i64 rk, .string i, .string v, .float .f64 t, .int .i64 p, .int .u64 (n : Int), .slice oa m cap, .int .i64 to, .int .i64 pl]] W fun e w' => e = .returned (.bool true) ∧ Below W.heap.size W w')) :
    Calls Try.prog 17 #[.agg #[.int .i64 3, .int .i64 rk, .string i, .string v, .float .f64 t, .int .i64 p, .int .u64 (n : Int), .slice oa m cap, .int .i64 to, .int .i64 pl]] w fun e w' => e = .returned (.bool true) ∧ Below w.heap.size w w' := by
  have g0_0 : ((n : Int) == 0) = true := beq_iff_eq.2 (by omega)
  have g0_1 : ((n : Int) = 0) = True := eq_true (by omega)
  have g0_2 : (n = 0) = True := eq_true (by omega)
  clear hc0
  have b0 := alloc_below w (.cells #[.int .i64 3, .int .i64 rk, .string i, .string v, .float .f64 t, .int .i64 p, .int .u64 (n : Int), .slice oa m cap, .int .i64 to, .int .i64 pl] 47)
  have n0 := heap_alloc_new w (.cells #[.int .i64 3, .int .i64 rk, .string i, .string v, .float .f64 t, .int .i64 p, .int .u64 (n : Int), .slice oa m cap, .int .i64 to, .int .i64 pl] 47)
  have B0 := Lib.hid b0
  have N0 := Lib.hid n0
  clear b0 n0
  go_enter Try.func17, Try.ntmps17
  go_wp2_with fail
  refine (H0.out _).mono ?_; rintro e v0 ⟨rfl, d0⟩
  have B1 := Lib.hid (stepQ B0.out d0)
  have N1 := Lib.hid ((d0.block _ (lt_of_rowQ N0.out)).trans N0.out)
  obtain ⟨c0, c1, c2, c3, c4, c5, c6, c7, c8, c9⟩ := ract_cells N1.out
  clear d0 N0
  go_wp2_with fail
  clear c0 c1 c2 c3 c4 c5 c6 c7 c8 c9
  refine (H1.out _).mono ?_; rintro e v1 ⟨rfl, d1⟩
  have B2 := Lib.hid (stepQ B1.out d1)
  have N2 := Lib.hid ((d1.block _ (lt_of_rowQ N1.out)).trans N1.out)
  obtain ⟨c0, c1, c2, c3, c4, c5, c6, c7, c8, c9⟩ := ract_cells N2.out
  clear d1 N1
  go_wp2_with fail
  go_ret
  exact ⟨rfl, B2.out⟩
set_option maxRecDepth 100000 in
set_option maxHeartbeats 4000000 in
theorem rR4_p (w : World) (rk p to pl : Int) (i v : ByteArray) (t n m cap : Nat) (oa : Option Addr)  (H0 : Hid (∀ W, Calls Try.prog 36 #[.agg #[.int .i64 4, .int .i64 rk, .string i, .string v, .float .f64 t, .int .i64 p, .int .u64 (n : Int), .slice oa m cap, .int .i64 to, .int .i64 pl]] W fun e w' => e = .returned (.bool false) ∧ Below W.heap.size W w')) :
    Calls Try.prog 17 #[.agg #[.int .i64 4, .int .i64 rk, .string i, .string v, .float .f64 t, .int .i64 p, .int .u64 (n : Int), .slice oa m cap, .int .i64 to, .int .i64 pl]] w fun e w' => e = .returned (.bool false) ∧ Below w.heap.size w w' := by
  have b0 := alloc_below w (.cells #[.int .i64 4, .int .i64 rk, .string i, .string v, .float .f64 t, .int .i64 p, .int .u64 (n : Int), .slice oa m cap, .int .i64 to, .int .i64 pl] 47)
  have n0 := heap_alloc_new w (.cells #[.int .i64 4, .int .i64 rk, .string i, .string v, .float .f64 t, .int .i64 p, .int .u64 (n : Int), .slice oa m cap, .int .i64 to, .int .i64 pl] 47)
  have B0 := Lib.hid b0
  have N0 := Lib.hid n0
  clear b0 n0
  go_enter Try.func17, Try.ntmps17
  go_wp2_with fail
  refine (H0.out _).mono ?_; rintro e v0 ⟨rfl, d0⟩
  have B1 := Lib.hid (stepQ B0.out d0)
  have N1 := Lib.hid ((d0.block _ (lt_of_rowQ N0.out)).trans N0.out)
  obtain ⟨c0, c1, c2, c3, c4, c5, c6, c7, c8, c9⟩ := ract_cells N1.out
  clear d0 N0
  go_wp2_with fail
  go_ret
  exact ⟨rfl, B1.out⟩
set_option maxRecDepth 100000 in
set_option maxHeartbeats 4000000 in
theorem rR4_w (w : World) (rk p to pl : Int) (i v : ByteArray) (t n m cap : Nat) (oa : Option Addr)  (H0 : Hid (∀ W, Calls Try.prog 36 #[.agg #[.int .i64 4, .int .i64 rk, .string i, .string v, .float .f64 t, .int .i64 p, .int .u64 (n : Int), .slice oa m cap, .int .i64 to, .int .i64 pl]] W fun e w' => e = .returned (.bool true) ∧ Below W.heap.size W w')) (H1 : Hid (∀ W, Calls Try.prog 35 #[.agg #[.int .i64 4, .int .i64 rk, .string i, .string v, .float .f64 t, .int .i64 p, .int .u64 (n : Int), .slice oa m cap, .int .i64 to, .int .i64 pl]] W fun e w' => e = .returned (.bool false) ∧ Below W.heap.size W w')) :
    Calls Try.prog 17 #[.agg #[.int .i64 4, .int .i64 rk, .string i, .string v, .float .f64 t, .int .i64 p, .int .u64 (n : Int), .slice oa m cap, .int .i64 to, .int .i64 pl]] w fun e w' => e = .returned (.bool false) ∧ Below w.heap.size w w' := by
  have b0 := alloc_below w (.cells #[.int .i64 4, .int .i64 rk, .string i, .string v, .float .f64 t, .int .i64 p, .int .u64 (n : Int), .slice oa m cap, .int .i64 to, .int .i64 pl] 47)
  have n0 := heap_alloc_new w (.cells #[.int .i64 4, .int .i64 rk, .string i, .string v, .float .f64 t, .int .i64 p, .int .u64 (n : Int), .slice oa m cap, .int .i64 to, .int .i64 pl] 47)
  have B0 := Lib.hid b0
  have N0 := Lib.hid n0
  clear b0 n0
  go_enter Try.func17, Try.ntmps17
  go_wp2_with fail
  refine (H0.out _).mono ?_; rintro e v0 ⟨rfl, d0⟩
  have B1 := Lib.hid (stepQ B0.out d0)
  have N1 := Lib.hid ((d0.block _ (lt_of_rowQ N0.out)).trans N0.out)
  obtain ⟨c0, c1, c2, c3, c4, c5, c6, c7, c8, c9⟩ := ract_cells N1.out
  clear d0 N0
  go_wp2_with fail
  clear c0 c1 c2 c3 c4 c5 c6 c7 c8 c9
  refine (H1.out _).mono ?_; rintro e v1 ⟨rfl, d1⟩
  have B2 := Lib.hid (stepQ B1.out d1)
  have N2 := Lib.hid ((d1.block _ (lt_of_rowQ N1.out)).trans N1.out)
  obtain ⟨c0, c1, c2, c3, c4, c5, c6, c7, c8, c9⟩ := ract_cells N2.out
  clear d1 N1
  go_wp2_with fail
  go_ret
  exact ⟨rfl, B2.out⟩
set_option maxRecDepth 100000 in
set_option maxHeartbeats 4000000 in
theorem rR4_0 (w : World) (rk p to pl : Int) (i v : ByteArray) (t n m cap : Nat) (oa : Option Addr) (hc0 : ¬ (n ≤ 65535)) (H0 : Hid (∀ W, Calls Try.prog 36 #[.agg #[.int .i64 4, .int .i64 rk, .string i, .string v, .float .f64 t, .int .i64 p, .int .u64 (n : Int), .slice oa m cap, .int .i64 to, .int .i64 pl]] W fun e w' => e = .returned (.bool true) ∧ Below W.heap.size W w')) (H1 : Hid (∀ W, Calls Try.prog 35 #[.agg #[.int .i64 4, .int .i64 rk, .string i, .string v, .float .f64 t, .int .i64 p, .int .u64 (n : Int), .slice oa m cap, .int .i64 to, .int .i64 pl]] W fun e w' => e = .returned (.bool true) ∧ Below W.heap.size W w')) :
    Calls Try.prog 17 #[.agg #[.int .i64 4, .int .i64 rk, .string i, .string v, .float .f64 t, .int .i64 p, .int .u64 (n : Int), .slice oa m cap, .int .i64 to, .int .i64 pl]] w fun e w' => e = .returned (.bool false) ∧ Below w.heap.size w w' := by
  have g0_0 : decide ((n : Int) ≤ 65535) = false := decide_eq_false (by omega)
  have g0_1 : ((n : Int) ≤ 65535) = False := eq_false (by omega)
  have g0_2 : (n ≤ 65535) = False := eq_false (by omega)
  clear hc0
  have b0 := alloc_below w (.cells #[.int .i64 4, .int .i64 rk, .string i, .string v, .float .f64 t, .int .i64 p, .int .u64 (n : Int), .slice oa m cap, .int .i64 to, .int .i64 pl] 47)
  have n0 := heap_alloc_new w (.cells #[.int .i64 4, .int .i64 rk, .string i, .string v, .float .f64 t, .int .i64 p, .int .u64 (n : Int), .slice oa m cap, .int .i64 to, .int .i64 pl] 47)
  have B0 := Lib.hid b0
  have N0 := Lib.hid n0
  clear b0 n0
  go_enter Try.func17, Try.ntmps17
  go_wp2_with fail
  refine (H0.out _).mono ?_; rintro e v0 ⟨rfl, d0⟩
  have B1 := Lib.hid (stepQ B0.out d0)
  have N1 := Lib.hid ((d0.block _ (lt_of_rowQ N0.out)).trans N0.out)
  obtain ⟨c0, c1, c2, c3, c4, c5, c6, c7, c8, c9⟩ := ract_cells N1.out
  clear d0 N0
  go_wp2_with fail
  clear c0 c1 c2 c3 c4 c5 c6 c7 c8 c9
  refine (H1.out _).mono ?_; rintro e v1 ⟨rfl, d1⟩
  have B2 := Lib.hid (stepQ B1.out d1)
  have N2 := Lib.hid ((d1.block _ (lt_of_rowQ N1.out)).trans N1.out)
  obtain ⟨c0, c1, c2, c3, c4, c5, c6, c7, c8, c9⟩ := ract_cells N2.out
  clear d1 N1
  go_wp2_with fail
  go_ret
  exact ⟨rfl, B2.out⟩
set_option maxRecDepth 100000 in
set_option maxHeartbeats 4000000 in
theorem rR4_t (w : World) (rk p to pl : Int) (i v : ByteArray) (t n m cap : Nat) (oa : Option Addr) (hc0 : n ≤ 65535) (H0 : Hid (∀ W, Calls Try.prog 36 #[.agg #[.int .i64 4, .int .i64 rk, .string i, .string v, .float .f64 t, .int .i64 p, .int .u64 (n : Int), .slice oa m cap, .int .i64 to, .int .i64 pl]] W fun e w' => e = .returned (.bool true) ∧ Below W.heap.size W w')) (H1 : Hid (∀ W, Calls Try.prog 35 #[.agg #[.int .i64 4, .int .i64 rk, .string i, .string v, .float .f64 t, .int .i64 p, .int .u64 (n : Int), .slice oa m cap, .int .i64 to, .int .i64 pl]] W fun e w' => e = .returned (.bool true) ∧ Below W.heap.size W w')) :
    Calls Try.prog 17 #[.agg #[.int .i64 4, .int .i64 rk, .string i, .string v, .float .f64 t, .int .i64 p, .int .u64 (n : Int), .slice oa m cap, .int .i64 to, .int .i64 pl]] w fun e w' => e = .returned (.bool true) ∧ Below w.heap.size w w' := by
  have g0_0 : decide ((n : Int) ≤ 65535) = true := decide_eq_true (by omega)
  have g0_1 : ((n : Int) ≤ 65535) = True := eq_true (by omega)
  have g0_2 : (n ≤ 65535) = True := eq_true (by omega)
  clear hc0
  have b0 := alloc_below w (.cells #[.int .i64 4, .int .i64 rk, .string i, .string v, .float .f64 t, .int .i64 p, .int .u64 (n : Int), .slice oa m cap, .int .i64 to, .int .i64 pl] 47)
  have n0 := heap_alloc_new w (.cells #[.int .i64 4, .int .i64 rk, .string i, .string v, .float .f64 t, .int .i64 p, .int .u64 (n : Int), .slice oa m cap, .int .i64 to, .int .i64 pl] 47)
  have B0 := Lib.hid b0
  have N0 := Lib.hid n0
  clear b0 n0
  go_enter Try.func17, Try.ntmps17
  go_wp2_with fail
  refine (H0.out _).mono ?_; rintro e v0 ⟨rfl, d0⟩
  have B1 := Lib.hid (stepQ B0.out d0)
  have N1 := Lib.hid ((d0.block _ (lt_of_rowQ N0.out)).trans N0.out)
  obtain ⟨c0, c1, c2, c3, c4, c5, c6, c7, c8, c9⟩ := ract_cells N1.out
  clear d0 N0
  go_wp2_with fail
  clear c0 c1 c2 c3 c4 c5 c6 c7 c8 c9
  refine (H1.out _).mono ?_; rintro e v1 ⟨rfl, d1⟩
  have B2 := Lib.hid (stepQ B1.out d1)
  have N2 := Lib.hid ((d1.block _ (lt_of_rowQ N1.out)).trans N1.out)
  obtain ⟨c0, c1, c2, c3, c4, c5, c6, c7, c8, c9⟩ := ract_cells N2.out
  clear d1 N1
  go_wp2_with fail
  go_ret
  exact ⟨rfl, B2.out⟩
set_option maxRecDepth 100000 in
set_option maxHeartbeats 4000000 in
theorem rR5_p (w : World) (rk p to pl : Int) (i v : ByteArray) (t n m cap : Nat) (oa : Option Addr)  (H0 : Hid (∀ W, Calls Try.prog 36 #[.agg #[.int .i64 5, .int .i64 rk, .string i, .string v, .float .f64 t, .int .i64 p, .int .u64 (n : Int), .slice oa m cap, .int .i64 to, .int .i64 pl]] W fun e w' => e = .returned (.bool false) ∧ Below W.heap.size W w')) :
    Calls Try.prog 17 #[.agg #[.int .i64 5, .int .i64 rk, .string i, .string v, .float .f64 t, .int .i64 p, .int .u64 (n : Int), .slice oa m cap, .int .i64 to, .int .i64 pl]] w fun e w' => e = .returned (.bool false) ∧ Below w.heap.size w w' := by
  have b0 := alloc_below w (.cells #[.int .i64 5, .int .i64 rk, .string i, .string v, .float .f64 t, .int .i64 p, .int .u64 (n : Int), .slice oa m cap, .int .i64 to, .int .i64 pl] 47)
  have n0 := heap_alloc_new w (.cells #[.int .i64 5, .int .i64 rk, .string i, .string v, .float .f64 t, .int .i64 p, .int .u64 (n : Int), .slice oa m cap, .int .i64 to, .int .i64 pl] 47)
  have B0 := Lib.hid b0
  have N0 := Lib.hid n0
  clear b0 n0
  go_enter Try.func17, Try.ntmps17
  go_wp2_with fail
  refine (H0.out _).mono ?_; rintro e v0 ⟨rfl, d0⟩
  have B1 := Lib.hid (stepQ B0.out d0)
  have N1 := Lib.hid ((d0.block _ (lt_of_rowQ N0.out)).trans N0.out)
  obtain ⟨c0, c1, c2, c3, c4, c5, c6, c7, c8, c9⟩ := ract_cells N1.out
  clear d0 N0
  go_wp2_with fail
  go_ret
  exact ⟨rfl, B1.out⟩
set_option maxRecDepth 100000 in
set_option maxHeartbeats 4000000 in
theorem rR5_0 (w : World) (rk p to pl : Int) (i v : ByteArray) (t n m cap : Nat) (oa : Option Addr) (hc0 : ¬ (m ≤ 255)) (H0 : Hid (∀ W, Calls Try.prog 36 #[.agg #[.int .i64 5, .int .i64 rk, .string i, .string v, .float .f64 t, .int .i64 p, .int .u64 (n : Int), .slice oa m cap, .int .i64 to, .int .i64 pl]] W fun e w' => e = .returned (.bool true) ∧ Below W.heap.size W w')) :
    Calls Try.prog 17 #[.agg #[.int .i64 5, .int .i64 rk, .string i, .string v, .float .f64 t, .int .i64 p, .int .u64 (n : Int), .slice oa m cap, .int .i64 to, .int .i64 pl]] w fun e w' => e = .returned (.bool false) ∧ Below w.heap.size w w' := by
  have g0_0 : decide ((m : Int) ≤ 255) = false := decide_eq_false (by omega)
  have g0_1 : ((m : Int) ≤ 255) = False := eq_false (by omega)
  have g0_2 : (m ≤ 255) = False := eq_false (by omega)
  clear hc0
  have b0 := alloc_below w (.cells #[.int .i64 5, .int .i64 rk, .string i, .string v, .float .f64 t, .int .i64 p, .int .u64 (n : Int), .slice oa m cap, .int .i64 to, .int .i64 pl] 47)
  have n0 := heap_alloc_new w (.cells #[.int .i64 5, .int .i64 rk, .string i, .string v, .float .f64 t, .int .i64 p, .int .u64 (n : Int), .slice oa m cap, .int .i64 to, .int .i64 pl] 47)
  have B0 := Lib.hid b0
  have N0 := Lib.hid n0
  clear b0 n0
  go_enter Try.func17, Try.ntmps17
  go_wp2_with fail
  refine (H0.out _).mono ?_; rintro e v0 ⟨rfl, d0⟩
  have B1 := Lib.hid (stepQ B0.out d0)
  have N1 := Lib.hid ((d0.block _ (lt_of_rowQ N0.out)).trans N0.out)
  obtain ⟨c0, c1, c2, c3, c4, c5, c6, c7, c8, c9⟩ := ract_cells N1.out
  clear d0 N0
  go_wp2_with fail
  go_ret
  exact ⟨rfl, B1.out⟩
set_option maxRecDepth 100000 in
set_option maxHeartbeats 4000000 in
theorem rR5_1 (w : World) (rk p to pl : Int) (i v : ByteArray) (t n m cap : Nat) (oa : Option Addr) (hc0 : m ≤ 255) (hc1 : ¬ (0 ≤ to)) (H0 : Hid (∀ W, Calls Try.prog 36 #[.agg #[.int .i64 5, .int .i64 rk, .string i, .string v, .float .f64 t, .int .i64 p, .int .u64 (n : Int), .slice oa m cap, .int .i64 to, .int .i64 pl]] W fun e w' => e = .returned (.bool true) ∧ Below W.heap.size W w')) :
    Calls Try.prog 17 #[.agg #[.int .i64 5, .int .i64 rk, .string i, .string v, .float .f64 t, .int .i64 p, .int .u64 (n : Int), .slice oa m cap, .int .i64 to, .int .i64 pl]] w fun e w' => e = .returned (.bool false) ∧ Below w.heap.size w w' := by
  have g0_0 : decide ((m : Int) ≤ 255) = true := decide_eq_true (by omega)
  have g0_1 : ((m : Int) ≤ 255) = True := eq_true (by omega)
  have g0_2 : (m ≤ 255) = True := eq_true (by omega)
  have g1_0 : decide (to ≥ 0) = false := decide_eq_false (by omega)
  have g1_1 : (0 ≤ to) = False := eq_false (by omega)
  have g1_2 : decide (0 ≤ to) = false := decide_eq_false (by omega)
  clear hc0 hc1
  have b0 := alloc_below w (.cells #[.int .i64 5, .int .i64 rk, .string i, .string v, .float .f64 t, .int .i64 p, .int .u64 (n : Int), .slice oa m cap, .int .i64 to, .int .i64 pl] 47)
  have n0 := heap_alloc_new w (.cells #[.int .i64 5, .int .i64 rk, .string i, .string v, .float .f64 t, .int .i64 p, .int .u64 (n : Int), .slice oa m cap, .int .i64 to, .int .i64 pl] 47)
  have B0 := Lib.hid b0
  have N0 := Lib.hid n0
  clear b0 n0
  go_enter Try.func17, Try.ntmps17
  go_wp2_with fail
  refine (H0.out _).mono ?_; rintro e v0 ⟨rfl, d0⟩
  have B1 := Lib.hid (stepQ B0.out d0)
  have N1 := Lib.hid ((d0.block _ (lt_of_rowQ N0.out)).trans N0.out)
  obtain ⟨c0, c1, c2, c3, c4, c5, c6, c7, c8, c9⟩ := ract_cells N1.out
  clear d0 N0
  go_wp2_with fail
  go_ret
  exact ⟨rfl, B1.out⟩
set_option maxRecDepth 100000 in
set_option maxHeartbeats 4000000 in
theorem rR5_2 (w : World) (rk p to pl : Int) (i v : ByteArray) (t n m cap : Nat) (oa : Option Addr) (hc0 : m ≤ 255) (hc1 : 0 ≤ to) (hc2 : ¬ (to ≤ 65535)) (H0 : Hid (∀ W, Calls Try.prog 36 #[.agg #[.int .i64 5, .int .i64 rk, .string i, .string v, .float .f64 t, .int .i64 p, .int .u64 (n : Int), .slice oa m cap, .int .i64 to, .int .i64 pl]] W fun e w' => e = .returned (.bool true) ∧ Below W.heap.size W w')) :
    Calls Try.prog 17 #[.agg #[.int .i64 5, .int .i64 rk, .string i, .string v, .float .f64 t, .int .i64 p, .int .u64 (n : Int), .slice oa m cap, .int .i64 to, .int .i64 pl]] w fun e w' => e = .returned (.bool false) ∧ Below w.heap.size w w' := by
  have g0_0 : decide ((m : Int) ≤ 255) = true := decide_eq_true (by omega)
  have g0_1 : ((m : Int) ≤ 255) = True := eq_true (by omega)
  have g0_2 : (m ≤ 255) = True := eq_true (by omega)
  have g1_0 : decide (to ≥ 0) = true := decide_eq_true (by omega)
  have g1_1 : (0 ≤ to) = True := eq_true (by omega)
  have g1_2 : decide (0 ≤ to) = true := decide_eq_true (by omega)
  have g2_0 : decide (to ≤ 65535) = false := decide_eq_false (by omega)
  have g2_1 : (to ≤ 65535) = False := eq_false (by omega)
  clear hc0 hc1 hc2
  have b0 := alloc_below w (.cells #[.int .i64 5, .int .i64 rk, .string i, .string v, .float .f64 t, .int .i64 p, .int .u64 (n : Int), .slice oa m cap, .int .i64 to, .int .i64 pl] 47)
  have n0 := heap_alloc_new w (.cells #[.int .i64 5, .int .i64 rk, .string i, .string v, .float .f64 t, .int .i64 p, .int .u64 (n : Int), .slice oa m cap, .int .i64 to, .int .i64 pl] 47)
  have B0 := Lib.hid b0
  have N0 := Lib.hid n0
  clear b0 n0
  go_enter Try.func17, Try.ntmps17
  go_wp2_with fail
  refine (H0.out _).mono ?_; rintro e v0 ⟨rfl, d0⟩
  have B1 := Lib.hid (stepQ B0.out d0)
  have N1 := Lib.hid ((d0.block _ (lt_of_rowQ N0.out)).trans N0.out)
  obtain ⟨c0, c1, c2, c3, c4, c5, c6, c7, c8, c9⟩ := ract_cells N1.out
  clear d0 N0
  go_wp2_with fail
  go_ret
  exact ⟨rfl, B1.out⟩
set_option maxRecDepth 100000 in
set_option maxHeartbeats 4000000 in
theorem rR5_3 (w : World) (rk p to pl : Int) (i v : ByteArray) (t n m cap : Nat) (oa : Option Addr) (hc0 : m ≤ 255) (hc1 : 0 ≤ to) (hc2 : to ≤ 65535) (hc3 : ¬ (0 ≤ pl)) (H0 : Hid (∀ W, Calls Try.prog 36 #[.agg #[.int .i64 5, .int .i64 rk, .string i, .string v, .float .f64 t, .int .i64 p, .int .u64 (n : Int), .slice oa m cap, .int .i64 to, .int .i64 pl]] W fun e w' => e = .returned (.bool true) ∧ Below W.heap.size W w')) :
    Calls Try.prog 17 #[.agg #[.int .i64 5, .int .i64 rk, .string i, .string v, .float .f64 t, .int .i64 p, .int .u64 (n : Int), .slice oa m cap, .int .i64 to, .int .i64 pl]] w fun e w' => e = .returned (.bool false) ∧ Below w.heap.size w w' := by
  have g0_0 : decide ((m : Int) ≤ 255) = true := decide_eq_true (by omega)
  have g0_1 : ((m : Int) ≤ 255) = True := eq_true (by omega)
  have g0_2 : (m ≤ 255) = True := eq_true (by omega)
  have g1_0 : decide (to ≥ 0) = true := decide_eq_true (by omega)
  have g1_1 : (0 ≤ to) = True := eq_true (by omega)
  have g1_2 : decide (0 ≤ to) = true := decide_eq_true (by omega)
  have g2_0 : decide (to ≤ 65535) = true := decide_eq_true (by omega)
  have g2_1 : (to ≤ 65535) = True := eq_true (by omega)
  have g3_0 : decide (pl ≥ 0) = false := decide_eq_false (by omega)
  have g3_1 : (0 ≤ pl) = False := eq_false (by omega)
  have g3_2 : decide (0 ≤ pl) = false := decide_eq_false (by omega)
  clear hc0 hc1 hc2 hc3
  have b0 := alloc_below w (.cells #[.int .i64 5, .int .i64 rk, .string i, .string v, .float .f64 t, .int .i64 p, .int .u64 (n : Int), .slice oa m cap, .int .i64 to, .int .i64 pl] 47)
  have n0 := heap_alloc_new w (.cells #[.int .i64 5, .int .i64 rk, .string i, .string v, .float .f64 t, .int .i64 p, .int .u64 (n : Int), .slice oa m cap, .int .i64 to, .int .i64 pl] 47)
  have B0 := Lib.hid b0
  have N0 := Lib.hid n0
  clear b0 n0
  go_enter Try.func17, Try.ntmps17
  go_wp2_with fail
  refine (H0.out _).mono ?_; rintro e v0 ⟨rfl, d0⟩
  have B1 := Lib.hid (stepQ B0.out d0)
  have N1 := Lib.hid ((d0.block _ (lt_of_rowQ N0.out)).trans N0.out)
  obtain ⟨c0, c1, c2, c3, c4, c5, c6, c7, c8, c9⟩ := ract_cells N1.out
  clear d0 N0
  go_wp2_with fail
  go_ret
  exact ⟨rfl, B1.out⟩
set_option maxRecDepth 100000 in
set_option maxHeartbeats 4000000 in
theorem rR5_4 (w : World) (rk p to pl : Int) (i v : ByteArray) (t n m cap : Nat) (oa : Option Addr) (hc0 : m ≤ 255) (hc1 : 0 ≤ to) (hc2 : to ≤ 65535) (hc3 : 0 ≤ pl) (hc4 : ¬ (pl ≤ 128)) (H0 : Hid (∀ W, Calls Try.prog 36 #[.agg #[.int .i64 5, .int .i64 rk, .string i, .string v, .float .f64 t, .int .i64 p, .int .u64 (n : Int), .slice oa m cap, .int .i64 to, .int .i64 pl]] W fun e w' => e = .returned (.bool true) ∧ Below W.heap.size W w')) :
    Calls Try.prog 17 #[.agg #[.int .i64 5, .int .i64 rk, .string i, .string v, .float .f64 t, .int .i64 p, .int .u64 (n : Int), .slice oa m cap, .int .i64 to, .int .i64 pl]] w fun e w' => e = .returned (.bool false) ∧ Below w.heap.size w w' := by
  have g0_0 : decide ((m : Int) ≤ 255) = true := decide_eq_true (by omega)
  have g0_1 : ((m : Int) ≤ 255) = True := eq_true (by omega)
  have g0_2 : (m ≤ 255) = True := eq_true (by omega)
  have g1_0 : decide (to ≥ 0) = true := decide_eq_true (by omega)
  have g1_1 : (0 ≤ to) = True := eq_true (by omega)
  have g1_2 : decide (0 ≤ to) = true := decide_eq_true (by omega)
  have g2_0 : decide (to ≤ 65535) = true := decide_eq_true (by omega)
  have g2_1 : (to ≤ 65535) = True := eq_true (by omega)
  have g3_0 : decide (pl ≥ 0) = true := decide_eq_true (by omega)
  have g3_1 : (0 ≤ pl) = True := eq_true (by omega)
  have g3_2 : decide (0 ≤ pl) = true := decide_eq_true (by omega)
  have g4_0 : decide (pl ≤ 128) = false := decide_eq_false (by omega)
  have g4_1 : (pl ≤ 128) = False := eq_false (by omega)
  clear hc0 hc1 hc2 hc3 hc4
  have b0 := alloc_below w (.cells #[.int .i64 5, .int .i64 rk, .string i, .string v, .float .f64 t, .int .i64 p, .int .u64 (n : Int), .slice oa m cap, .int .i64 to, .int .i64 pl] 47)
  have n0 := heap_alloc_new w (.cells #[.int .i64 5, .int .i64 rk, .string i, .string v, .float .f64 t, .int .i64 p, .int .u64 (n : Int), .slice oa m cap, .int .i64 to, .int .i64 pl] 47)
  have B0 := Lib.hid b0
  have N0 := Lib.hid n0
  clear b0 n0
  go_enter Try.func17, Try.ntmps17
  go_wp2_with fail
  refine (H0.out _).mono ?_; rintro e v0 ⟨rfl, d0⟩
  have B1 := Lib.hid (stepQ B0.out d0)
  have N1 := Lib.hid ((d0.block _ (lt_of_rowQ N0.out)).trans N0.out)
  obtain ⟨c0, c1, c2, c3, c4, c5, c6, c7, c8, c9⟩ := ract_cells N1.out
  clear d0 N0
  go_wp2_with fail
  go_ret
  exact ⟨rfl, B1.out⟩
set_option maxRecDepth 100000 in
set_option maxHeartbeats 4000000 in
theorem rR5_t (w : World) (rk p to pl : Int) (i v : ByteArray) (t n m cap : Nat) (oa : Option Addr) (hc0 : m ≤ 255) (hc1 : 0 ≤ to) (hc2 : to ≤ 65535) (hc3 : 0 ≤ pl) (hc4 : pl ≤ 128) (H0 : Hid (∀ W, Calls Try.prog 36 #[.agg #[.int .i64 5, .int .i64 rk, .string i, .string v, .float .f64 t, .int .i64 p, .int .u64 (n : Int), .slice oa m cap, .int .i64 to, .int .i64 pl]] W fun e w' => e = .returned (.bool true) ∧ Below W.heap.size W w')) :
    Calls Try.prog 17 #[.agg #[.int .i64 5, .int .i64 rk, .string i, .string v, .float .f64 t, .int .i64 p, .int .u64 (n : Int), .slice oa m cap, .int .i64 to, .int .i64 pl]] w fun e w' => e = .returned (.bool true) ∧ Below w.heap.size w w' := by
  have g0_0 : decide ((m : Int) ≤ 255) = true := decide_eq_true (by omega)
  have g0_1 : ((m : Int) ≤ 255) = True := eq_true (by omega)
  have g0_2 : (m ≤ 255) = True := eq_true (by omega)
  have g1_0 : decide (to ≥ 0) = true := decide_eq_true (by omega)
  have g1_1 : (0 ≤ to) = True := eq_true (by omega)
  have g1_2 : decide (0 ≤ to) = true := decide_eq_true (by omega)
  have g2_0 : decide (to ≤ 65535) = true := decide_eq_true (by omega)
  have g2_1 : (to ≤ 65535) = True := eq_true (by omega)
  have g3_0 : decide (pl ≥ 0) = true := decide_eq_true (by omega)
  have g3_1 : (0 ≤ pl) = True := eq_true (by omega)
  have g3_2 : decide (0 ≤ pl) = true := decide_eq_true (by omega)
  have g4_0 : decide (pl ≤ 128) = true := decide_eq_true (by omega)
  have g4_1 : (pl ≤ 128) = True := eq_true (by omega)
  clear hc0 hc1 hc2 hc3 hc4
  have b0 := alloc_below w (.cells #[.int .i64 5, .int .i64 rk, .string i, .string v, .float .f64 t, .int .i64 p, .int .u64 (n : Int), .slice oa m cap, .int .i64 to, .int .i64 pl] 47)
  have n0 := heap_alloc_new w (.cells #[.int .i64 5, .int .i64 rk, .string i, .string v, .float .f64 t, .int .i64 p, .int .u64 (n : Int), .slice oa m cap, .int .i64 to, .int .i64 pl] 47)
  have B0 := Lib.hid b0
  have N0 := Lib.hid n0
  clear b0 n0
  go_enter Try.func17, Try.ntmps17
  go_wp2_with fail
  refine (H0.out _).mono ?_; rintro e v0 ⟨rfl, d0⟩
  have B1 := Lib.hid (stepQ B0.out d0)
  have N1 := Lib.hid ((d0.block _ (lt_of_rowQ N0.out)).trans N0.out)
  obtain ⟨c0, c1, c2, c3, c4, c5, c6, c7, c8, c9⟩ := ract_cells N1.out
  clear d0 N0
  go_wp2_with fail
  go_ret
  exact ⟨rfl, B1.out⟩
set_option maxRecDepth 100000 in
set_option maxHeartbeats 4000000 in
theorem rRx (w : World) (k rk p to pl : Int) (i v : ByteArray) (t n m cap : Nat) (oa : Option Addr) (q0 : (k == 0) = false) (q1 : (k == 1) = false) (q2 : (k == 2) = false) (q3 : (k == 3) = false) (q4 : (k == 4) = false) (q5 : (k == 5) = false)   :
    Calls Try.prog 17 #[.agg #[.int .i64 k, .int .i64 rk, .string i, .string v, .float .f64 t, .int .i64 p, .int .u64 (n : Int), .slice oa m cap, .int .i64 to, .int .i64 pl]] w fun e w' => e = .returned (.bool false) ∧ Below w.heap.size w w' := by
  have b0 := alloc_below w (.cells #[.int .i64 k, .int .i64 rk, .string i, .string v, .float .f64 t, .int .i64 p, .int .u64 (n : Int), .slice oa m cap, .int .i64 to, .int .i64 pl] 47)
  have n0 := heap_alloc_new w (.cells #[.int .i64 k, .int .i64 rk, .string i, .string v, .float .f64 t, .int .i64 p, .int .u64 (n : Int), .slice oa m cap, .int .i64 to, .int .i64 pl] 47)
  have HB := Lib.hid b0
  clear b0 n0
  go_enter Try.func17, Try.ntmps17
  go_wp2_with fail
  go_ret
  exact ⟨rfl, HB.out⟩
theorem rwhole_val (w : World) (k rk p to pl : Int) (i v : ByteArray) (t n m cap : Nat) (oa : Option Addr) :
    Calls Try.prog 35 #[.agg #[.int .i64 k, .int .i64 rk, .string i, .string v, .float .f64 t, .int .i64 p, .int .u64 (n : Int), .slice oa m cap, .int .i64 to, .int .i64 pl]] w fun e w' => e = .returned (.bool (decide (m = 0 ∧ to = 0 ∧ pl = 0))) ∧ Below w.heap.size w w' := by
  by_cases hc0 : m = 0
  rotate_left
  · rw [decide_eq_false (show ¬ (m = 0 ∧ to = 0 ∧ pl = 0) from fun h => hc0 h.1)]; exact rwhole_0 w k rk p to pl i v t n m cap oa hc0
  by_cases hc1 : to = 0
  rotate_left
  · rw [decide_eq_false (show ¬ (m = 0 ∧ to = 0 ∧ pl = 0) from fun h => hc1 h.2.1)]; exact rwhole_1 w k rk p to pl i v t n m cap oa hc0 hc1
  by_cases hc2 : pl = 0
  rotate_left
  · rw [decide_eq_false (show ¬ (m = 0 ∧ to = 0 ∧ pl = 0) from fun h => hc2 h.2.2)]; exact rwhole_2 w k rk p to pl i v t n m cap oa hc0 hc1 hc2
  rw [decide_eq_true (show m = 0 ∧ to = 0 ∧ pl = 0 from ⟨hc0, hc1, hc2⟩)]
  exact rwhole_t w k rk p to pl i v t n m cap oa hc0 hc1 hc2
theorem rplain_val (w : World) (k rk p to pl : Int) (i v : ByteArray) (t n m cap : Nat) (oa : Option Addr) :
    Calls Try.prog 36 #[.agg #[.int .i64 k, .int .i64 rk, .string i, .string v, .float .f64 t, .int .i64 p, .int .u64 (n : Int), .slice oa m cap, .int .i64 to, .int .i64 pl]] w fun e w' => e = .returned (.bool (decide (rk = 0 ∧ i = ⟨#[]⟩ ∧ v = ⟨#[]⟩ ∧ t = 0 ∧ p = 0))) ∧ Below w.heap.size w w' := by
  by_cases hc0 : rk = 0
  rotate_left
  · rw [decide_eq_false (show ¬ (rk = 0 ∧ i = ⟨#[]⟩ ∧ v = ⟨#[]⟩ ∧ t = 0 ∧ p = 0) from fun h => hc0 h.1)]; exact rplain_0 w k rk p to pl i v t n m cap oa hc0
  by_cases hc1 : i = ⟨#[]⟩
  rotate_left
  · rw [decide_eq_false (show ¬ (rk = 0 ∧ i = ⟨#[]⟩ ∧ v = ⟨#[]⟩ ∧ t = 0 ∧ p = 0) from fun h => hc1 h.2.1)]; exact rplain_1 w k rk p to pl i v t n m cap oa hc0 hc1
  by_cases hc2 : v = ⟨#[]⟩
  rotate_left
  · rw [decide_eq_false (show ¬ (rk = 0 ∧ i = ⟨#[]⟩ ∧ v = ⟨#[]⟩ ∧ t = 0 ∧ p = 0) from fun h => hc2 h.2.2.1)]; exact rplain_2 w k rk p to pl i v t n m cap oa hc0 hc1 hc2
  by_cases hc3 : t = 0
  rotate_left
  · rw [decide_eq_false (show ¬ (rk = 0 ∧ i = ⟨#[]⟩ ∧ v = ⟨#[]⟩ ∧ t = 0 ∧ p = 0) from fun h => hc3 h.2.2.2.1)]; exact rplain_3 w k rk p to pl i v t n m cap oa hc0 hc1 hc2 hc3
  by_cases hc4 : p = 0
  rotate_left
  · rw [decide_eq_false (show ¬ (rk = 0 ∧ i = ⟨#[]⟩ ∧ v = ⟨#[]⟩ ∧ t = 0 ∧ p = 0) from fun h => hc4 h.2.2.2.2)]; exact rplain_4 w k rk p to pl i v t n m cap oa hc0 hc1 hc2 hc3 hc4
  rw [decide_eq_true (show rk = 0 ∧ i = ⟨#[]⟩ ∧ v = ⟨#[]⟩ ∧ t = 0 ∧ p = 0 from ⟨hc0, hc1, hc2, hc3, hc4⟩)]
  exact rplain_t w k rk p to pl i v t n m cap oa hc0 hc1 hc2 hc3 hc4
theorem rR0_val (w : World) (rk p to pl : Int) (i v : ByteArray) (t n m cap : Nat) (oa : Option Addr) (H0 : Hid (∀ W, Calls Try.prog 35 #[.agg #[.int .i64 0, .int .i64 rk, .string i, .string v, .float .f64 t, .int .i64 p, .int .u64 (n : Int), .slice oa m cap, .int .i64 to, .int .i64 pl]] W fun e w' => e = .returned (.bool true) ∧ Below W.heap.size W w')) :
    Calls Try.prog 17 #[.agg #[.int .i64 0, .int .i64 rk, .string i, .string v, .float .f64 t, .int .i64 p, .int .u64 (n : Int), .slice oa m cap, .int .i64 to, .int .i64 pl]] w fun e w' => e = .returned (.bool (decide (n = 0 ∧ 0 ≤ rk ∧ rk ≤ 255 ∧ i.size ≤ 255 ∧ v.size ≤ 255 ∧ 0 ≤ p ∧ p ≤ 255))) ∧ Below w.heap.size w w' := by
  by_cases hc0 : n = 0
  rotate_left
  · rw [decide_eq_false (show ¬ (n = 0 ∧ 0 ≤ rk ∧ rk ≤ 255 ∧ i.size ≤ 255 ∧ v.size ≤ 255 ∧ 0 ≤ p ∧ p ≤ 255) from fun h => hc0 h.1)]; exact rR0_0 w rk p to pl i v t n m cap oa hc0 H0
  by_cases hc1 : 0 ≤ rk
  rotate_left
  · rw [decide_eq_false (show ¬ (n = 0 ∧ 0 ≤ rk ∧ rk ≤ 255 ∧ i.size ≤ 255 ∧ v.size ≤ 255 ∧ 0 ≤ p ∧ p ≤ 255) from fun h => hc1 h.2.1)]; exact rR0_1 w rk p to pl i v t n m cap oa hc0 hc1 H0
  by_cases hc2 : rk ≤ 255
  rotate_left
  · rw [decide_eq_false (show ¬ (n = 0 ∧ 0 ≤ rk ∧ rk ≤ 255 ∧ i.size ≤ 255 ∧ v.size ≤ 255 ∧ 0 ≤ p ∧ p ≤ 255) from fun h => hc2 h.2.2.1)]; exact rR0_2 w rk p to pl i v t n m cap oa hc0 hc1 hc2 H0
  by_cases hc3 : i.size ≤ 255
  rotate_left
  · rw [decide_eq_false (show ¬ (n = 0 ∧ 0 ≤ rk ∧ rk ≤ 255 ∧ i.size ≤ 255 ∧ v.size ≤ 255 ∧ 0 ≤ p ∧ p ≤ 255) from fun h => hc3 h.2.2.2.1)]; exact rR0_3 w rk p to pl i v t n m cap oa hc0 hc1 hc2 hc3 H0
  by_cases hc4 : v.size ≤ 255
  rotate_left
  · rw [decide_eq_false (show ¬ (n = 0 ∧ 0 ≤ rk ∧ rk ≤ 255 ∧ i.size ≤ 255 ∧ v.size ≤ 255 ∧ 0 ≤ p ∧ p ≤ 255) from fun h => hc4 h.2.2.2.2.1)]; exact rR0_4 w rk p to pl i v t n m cap oa hc0 hc1 hc2 hc3 hc4 H0
  by_cases hc5 : 0 ≤ p
  rotate_left
  · rw [decide_eq_false (show ¬ (n = 0 ∧ 0 ≤ rk ∧ rk ≤ 255 ∧ i.size ≤ 255 ∧ v.size ≤ 255 ∧ 0 ≤ p ∧ p ≤ 255) from fun h => hc5 h.2.2.2.2.2.1)]; exact rR0_5 w rk p to pl i v t n m cap oa hc0 hc1 hc2 hc3 hc4 hc5 H0
  by_cases hc6 : p ≤ 255
  rotate_left
  · rw [decide_eq_false (show ¬ (n = 0 ∧ 0 ≤ rk ∧ rk ≤ 255 ∧ i.size ≤ 255 ∧ v.size ≤ 255 ∧ 0 ≤ p ∧ p ≤ 255) from fun h => hc6 h.2.2.2.2.2.2)]; exact rR0_6 w rk p to pl i v t n m cap oa hc0 hc1 hc2 hc3 hc4 hc5 hc6 H0
  rw [decide_eq_true (show n = 0 ∧ 0 ≤ rk ∧ rk ≤ 255 ∧ i.size ≤ 255 ∧ v.size ≤ 255 ∧ 0 ≤ p ∧ p ≤ 255 from ⟨hc0, hc1, hc2, hc3, hc4, hc5, hc6⟩)]
  exact rR0_t w rk p to pl i v t n m cap oa hc0 hc1 hc2 hc3 hc4 hc5 hc6 H0
theorem rR1_val (w : World) (rk p to pl : Int) (i v : ByteArray) (t n m cap : Nat) (oa : Option Addr) (H0 : Hid (∀ W, Calls Try.prog 36 #[.agg #[.int .i64 1, .int .i64 rk, .string i, .string v, .float .f64 t, .int .i64 p, .int .u64 (n : Int), .slice oa m cap, .int .i64 to, .int .i64 pl]] W fun e w' => e = .returned (.bool true) ∧ Below W.heap.size W w')) (H1 : Hid (∀ W, Calls Try.prog 35 #[.agg #[.int .i64 1, .int .i64 rk, .string i, .string v, .float .f64 t, .int .i64 p, .int .u64 (n : Int), .slice oa m cap, .int .i64 to, .int .i64 pl]] W fun e w' => e = .returned (.bool true) ∧ Below W.heap.size W w')) :
    Calls Try.prog 17 #[.agg #[.int .i64 1, .int .i64 rk, .string i, .string v, .float .f64 t, .int .i64 p, .int .u64 (n : Int), .slice oa m cap, .int .i64 to, .int .i64 pl]] w fun e w' => e = .returned (.bool (decide (True))) ∧ Below w.heap.size w w' := by
  rw [decide_eq_true (show True from trivial)]
  exact rR1_t w rk p to pl i v t n m cap oa  H0 H1
theorem rR2_val (w : World) (rk p to pl : Int) (i v : ByteArray) (t n m cap : Nat) (oa : Option Addr) (H0 : Hid (∀ W, Calls Try.prog 36 #[.agg #[.int .i64 2, .int .i64 rk, .string i, .string v, .float .f64 t, .int .i64 p, .int .u64 (n : Int), .slice oa m cap, .int .i64 to, .int .i64 pl]] W fun e w' => e = .returned (.bool true) ∧ Below W.heap.size W w')) (H1 : Hid (∀ W, Calls Try.prog 35 #[.agg #[.int .i64 2, .int .i64 rk, .string i, .string v, .float .f64 t, .int .i64 p, .int .u64 (n : Int), .slice oa m cap, .int .i64 to, .int .i64 pl]] W fun e w' => e = .returned (.bool true) ∧ Below W.heap.size W w')) :
    Calls Try.prog 17 #[.agg #[.int .i64 2, .int .i64 rk, .string i, .string v, .float .f64 t, .int .i64 p, .int .u64 (n : Int), .slice oa m cap, .int .i64 to, .int .i64 pl]] w fun e w' => e = .returned (.bool (decide (n ≤ 255))) ∧ Below w.heap.size w w' := by
  by_cases hc0 : n ≤ 255
  rotate_left
  · rw [decide_eq_false (show ¬ (n ≤ 255) from fun h => hc0 h)]; exact rR2_0 w rk p to pl i v t n m cap oa hc0 H0 H1
  rw [decide_eq_true (show n ≤ 255 from hc0)]
  exact rR2_t w rk p to pl i v t n m cap oa hc0 H0 H1
theorem rR3_val (w : World) (rk p to pl : Int) (i v : ByteArray) (t n m cap : Nat) (oa : Option Addr) (H0 : Hid (∀ W, Calls Try.prog 36 #[.agg #[.int .i64 3, .int .i64 rk, .string i, .string v, .float .f64 t, .int .i64 p, .int .u64 (n : Int), .slice oa m cap, .int .i64 to, .int .i64 pl]] W fun e w' => e = .returned (.bool true) ∧ Below W.heap.size W w')) (H1 : Hid (∀ W, Calls Try.prog 35 #[.agg #[.int .i64 3, .int .i64 rk, .string i, .string v, .float .f64 t, .int .i64 p, .int .u64 (n : Int), .slice oa m cap, .int .i64 to, .int .i64 pl]] W fun e w' => e = .returned (.bool true) ∧ Below W.heap.size W w')) :
    Calls Try.prog 17 #[.agg #[.int .i64 3, .int .i64 rk, .string i, .string v, .float .f64 t, .int .i64 p, .int .u64 (n : Int), .slice oa m cap, .int .i64 to, .int .i64 pl]] w fun e w' => e = .returned (.bool (decide (n = 0))) ∧ Below w.heap.size w w' := by
  by_cases hc0 : n = 0
  rotate_left
  · rw [decide_eq_false (show ¬ (n = 0) from fun h => hc0 h)]; exact rR3_0 w rk p to pl i v t n m cap oa hc0 H0 H1
  rw [decide_eq_true (show n = 0 from hc0)]
  exact rR3_t w rk p to pl i v t n m cap oa hc0 H0 H1
theorem rR4_val (w : World) (rk p to pl : Int) (i v : ByteArray) (t n m cap : Nat) (oa : Option Addr) (H0 : Hid (∀ W, Calls Try.prog 36 #[.agg #[.int .i64 4, .int .i64 rk, .string i, .string v, .float .f64 t, .int .i64 p, .int .u64 (n : Int), .slice oa m cap, .int .i64 to, .int .i64 pl]] W fun e w' => e = .returned (.bool true) ∧ Below W.heap.size W w')) (H1 : Hid (∀ W, Calls Try.prog 35 #[.agg #[.int .i64 4, .int .i64 rk, .string i, .string v, .float .f64 t, .int .i64 p, .int .u64 (n : Int), .slice oa m cap, .int .i64 to, .int .i64 pl]] W fun e w' => e = .returned (.bool true) ∧ Below W.heap.size W w')) :
    Calls Try.prog 17 #[.agg #[.int .i64 4, .int .i64 rk, .string i, .string v, .float .f64 t, .int .i64 p, .int .u64 (n : Int), .slice oa m cap, .int .i64 to, .int .i64 pl]] w fun e w' => e = .returned (.bool (decide (n ≤ 65535))) ∧ Below w.heap.size w w' := by
  by_cases hc0 : n ≤ 65535
  rotate_left
  · rw [decide_eq_false (show ¬ (n ≤ 65535) from fun h => hc0 h)]; exact rR4_0 w rk p to pl i v t n m cap oa hc0 H0 H1
  rw [decide_eq_true (show n ≤ 65535 from hc0)]
  exact rR4_t w rk p to pl i v t n m cap oa hc0 H0 H1
theorem rR5_val (w : World) (rk p to pl : Int) (i v : ByteArray) (t n m cap : Nat) (oa : Option Addr) (H0 : Hid (∀ W, Calls Try.prog 36 #[.agg #[.int .i64 5, .int .i64 rk, .string i, .string v, .float .f64 t, .int .i64 p, .int .u64 (n : Int), .slice oa m cap, .int .i64 to, .int .i64 pl]] W fun e w' => e = .returned (.bool true) ∧ Below W.heap.size W w')) :
    Calls Try.prog 17 #[.agg #[.int .i64 5, .int .i64 rk, .string i, .string v, .float .f64 t, .int .i64 p, .int .u64 (n : Int), .slice oa m cap, .int .i64 to, .int .i64 pl]] w fun e w' => e = .returned (.bool (decide (m ≤ 255 ∧ 0 ≤ to ∧ to ≤ 65535 ∧ 0 ≤ pl ∧ pl ≤ 128))) ∧ Below w.heap.size w w' := by
  by_cases hc0 : m ≤ 255
  rotate_left
  · rw [decide_eq_false (show ¬ (m ≤ 255 ∧ 0 ≤ to ∧ to ≤ 65535 ∧ 0 ≤ pl ∧ pl ≤ 128) from fun h => hc0 h.1)]; exact rR5_0 w rk p to pl i v t n m cap oa hc0 H0
  by_cases hc1 : 0 ≤ to
  rotate_left
  · rw [decide_eq_false (show ¬ (m ≤ 255 ∧ 0 ≤ to ∧ to ≤ 65535 ∧ 0 ≤ pl ∧ pl ≤ 128) from fun h => hc1 h.2.1)]; exact rR5_1 w rk p to pl i v t n m cap oa hc0 hc1 H0
  by_cases hc2 : to ≤ 65535
  rotate_left
  · rw [decide_eq_false (show ¬ (m ≤ 255 ∧ 0 ≤ to ∧ to ≤ 65535 ∧ 0 ≤ pl ∧ pl ≤ 128) from fun h => hc2 h.2.2.1)]; exact rR5_2 w rk p to pl i v t n m cap oa hc0 hc1 hc2 H0
  by_cases hc3 : 0 ≤ pl
  rotate_left
  · rw [decide_eq_false (show ¬ (m ≤ 255 ∧ 0 ≤ to ∧ to ≤ 65535 ∧ 0 ≤ pl ∧ pl ≤ 128) from fun h => hc3 h.2.2.2.1)]; exact rR5_3 w rk p to pl i v t n m cap oa hc0 hc1 hc2 hc3 H0
  by_cases hc4 : pl ≤ 128
  rotate_left
  · rw [decide_eq_false (show ¬ (m ≤ 255 ∧ 0 ≤ to ∧ to ≤ 65535 ∧ 0 ≤ pl ∧ pl ≤ 128) from fun h => hc4 h.2.2.2.2)]; exact rR5_4 w rk p to pl i v t n m cap oa hc0 hc1 hc2 hc3 hc4 H0
  rw [decide_eq_true (show m ≤ 255 ∧ 0 ≤ to ∧ to ≤ 65535 ∧ 0 ≤ pl ∧ pl ≤ 128 from ⟨hc0, hc1, hc2, hc3, hc4⟩)]
  exact rR5_t w rk p to pl i v t n m cap oa hc0 hc1 hc2 hc3 hc4 H0
theorem Ac.only_iff (a : Ac) : a = a.only ↔ (if a.kind = 0 then a.keep = [] ∧ a.torn = 0 ∧ a.pl = 0 ∧ a.n = 0 else if a.kind = 1 ∨ a.kind = 2 ∨ a.kind = 4 then (a.rk = 0 ∧ a.id = ⟨#[]⟩ ∧ a.va = ⟨#[]⟩ ∧ a.ttl = 0 ∧ a.pick = 0) ∧ (a.keep = [] ∧ a.torn = 0 ∧ a.pl = 0)
    else if a.kind = 5 then a.rk = 0 ∧ a.id = ⟨#[]⟩ ∧ a.va = ⟨#[]⟩ ∧ a.ttl = 0 ∧ a.pick = 0 else (a.rk = 0 ∧ a.id = ⟨#[]⟩ ∧ a.va = ⟨#[]⟩ ∧ a.ttl = 0 ∧ a.pick = 0) ∧ (a.keep = [] ∧ a.torn = 0 ∧ a.pl = 0) ∧ a.n = 0) := by
  obtain ⟨k, rk, i, v, t, p, n, keep, to, pl⟩ := a
  have he : ByteArray.empty = ⟨#[]⟩ := rfl
  unfold Ac.only
  simp only
  by_cases h0 : k = 0
  · subst h0; simp [Ac.zero]; constructor <;> (intro h; simp_all)
  by_cases h1 : k = 1 ∨ k = 2 ∨ k = 4
  · simp only [h0, h1, if_true, if_false, Ac.zero, Ac.mk.injEq, he, true_and, and_true]; constructor <;> (intro h; simp_all)
  by_cases h5 : k = 5
  · subst h5; simp [Ac.zero, he]; try (constructor <;> (intro h; simp_all))
  · simp only [h0, h1, h5, if_false, Ac.zero, Ac.mk.injEq, he, true_and, and_true]; constructor <;> (intro h; simp_all)
end Go.Proofs.Ytjkiofgllmjkcaa.G
