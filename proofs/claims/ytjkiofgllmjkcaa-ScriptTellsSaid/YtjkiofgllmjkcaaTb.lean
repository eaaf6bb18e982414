/- The document's bytes of an act. -/
import Derived.Test.YtjkiofgllmjkcaaT1
import Derived.Test.YtjkiofgllmjkcaaSn
import Derived.Test.YtjkiofgllmjkcaaGWord2
import Derived.Test.YtjkiofgllmjkcaaGLoose
import Derived.Test.YtjkiofgllmjkcaaGFast
import Derived.BigQuiet
import Derived.Test.YtjkiofgllmjkcaaS5b
namespace Go.Proofs.Ytjkiofgllmjkcaa.G
open Go.RowKit Go.Proofs.Ytjkiofgllmjkcaa.WordPlain Go.Proofs.Ytjkiofgllmjkcaa.Loose
set_option linter.unusedVariables false
set_option linter.unusedSimpArgs false

/-- bytes that are laid anew -/
def NB (xs : Array Value) (k : Nat) (u : Value) (W : World) : Prop := ∃ b, u = .slice (some ⟨b, 0, none⟩) k k ∧ W.heap[b]? = some (.cells xs 5 (0, 0))
theorem stab_NB (xs : Array Value) (k : Nat) : Stab (NB xs k) := by
  rintro v w w' ⟨b, h1, h2⟩ hb
  exact ⟨b, h1, (hb.block b (lt_of_rowQ h2)).trans h2⟩
theorem byteAt0 (n : Nat) (h : n < 256) : ((byteAt n 0).toNat : Int) = (n : Int) := by rw [byteAt_nat, Nat.pow_zero, Nat.div_one, Nat.mod_eq_of_lt h]
theorem conv_row {ty : TypeId} (W : World) (b : Nat) (l : List UInt8) (h : W.heap[b]? = some (.cells ((l.map fun (c : UInt8) => Value.int .u8 (c.toNat : Int))).toArray ty (0, 0))) :
    (convert 80 9 (.slice (some ⟨b, 0, none⟩) l.length l.length)).run Try.prog W = .ok (.string ⟨l.toArray⟩) W := by
  have hat : BytesAt W b ⟨l.toArray⟩ := by
    refine ⟨fun j hj => ?_, fun j hj => frozen_of_row _ _ j _ _ h⟩
    rw [cell_of_row _ _ j _ _ _ h]
    have hj' : j < l.length := hj
    simp [hj']
    rfl
  have := bytes_back (P := Try.prog) hat 80 9 5 l.length Try.underlying80 Try.underlying5 Try.underlying9
  exact this
theorem conv1 (W : World) (b : Nat) (x : Int) (n : Nat) (hx : x = (n : Int)) (hn : n < 256) (h : W.heap[b]? = some (.cells #[.int .u8 x] 5 (0, 0))) :
    (convert 80 9 (.slice (some ⟨b, 0, none⟩) 1 1)).run Try.prog W = .ok (.string (wput n 1)) W := by
  have := conv_row (ty := 5) W b [byteAt n 0] (by rw [h]; simp only [List.map_cons, List.map_nil, byteAt0 n hn, hx])
  exact this
theorem conv2 (W : World) (b : Nat) (x y : Int) (n m : Nat) (hx : x = (n : Int)) (hy : y = (m : Int)) (hn : n < 256) (hm : m < 256) (h : W.heap[b]? = some (.cells #[.int .u8 x, .int .u8 y] 5 (0, 0))) :
    (convert 80 9 (.slice (some ⟨b, 0, none⟩) 2 2)).run Try.prog W = .ok (.string (wput n 1 ++ wput m 1)) W := by
  have := conv_row (ty := 5) W b [byteAt n 0, byteAt m 0] (by rw [h]; simp only [List.map_cons, List.map_nil, byteAt0 n hn, byteAt0 m hm, hx, hy])
  have e : (⟨[byteAt n 0, byteAt m 0].toArray⟩ : ByteArray) = wput n 1 ++ wput m 1 := by
    apply ByteArray.ext
    rw [ByteArray.data_append]
    rfl
  rw [e] at this
  exact this
theorem b_cells {W0 : World} {A : Nat} {k rk p to pl : Int} {i v : ByteArray} {t n m cap : Nat} {oa : Option Addr} (h : W0.heap[A]? = some (.cells #[.int .i64 k, .int .i64 rk, .string i, .string v, .float .f64 t, .int .i64 p, .int .u64 (n : Int), .slice oa m cap, .int .i64 to, .int .i64 pl] 47 (0, 0))) (W : World) (hb : Below W0.heap.size W0 W) : W.heap[A]? = some (.cells #[.int .i64 k, .int .i64 rk, .string i, .string v, .float .f64 t, .int .i64 p, .int .u64 (n : Int), .slice oa m cap, .int .i64 to, .int .i64 pl] 47 (0, 0)) := (hb.block _ (lt_of_rowQ h)).trans h
theorem alloc_sizeB (w : World) (o : Obj) : (w.alloc o).heap.size = w.heap.size + 1 := by show (w.heap.push o).size = _; rw [Array.size_push]
set_option maxRecDepth 100000 in
set_option maxHeartbeats 8000000 in
theorem rb_1 (w : World) (rk p to pl : Int) (i v : ByteArray) (t n m cap : Nat) (oa : Option Addr) (hn : n < 18446744073709551616) (z : ByteArray) (hz : Hid (z = wput 1 1 ++ wput n 8)) :
    Calls Try.prog 25 #[.agg #[.int .i64 1, .int .i64 rk, .string i, .string v, .float .f64 t, .int .i64 p, .int .u64 (n : Int), .slice oa m cap, .int .i64 to, .int .i64 pl]] w fun e w' => e = .returned (.string z) ∧ Below w.heap.size w w' := by
  have b0 := alloc_below w (.cells #[.int .i64 1, .int .i64 rk, .string i, .string v, .float .f64 t, .int .i64 p, .int .u64 (n : Int), .slice oa m cap, .int .i64 to, .int .i64 pl] 47)
  have n0 := heap_alloc_new w (.cells #[.int .i64 1, .int .i64 rk, .string i, .string v, .float .f64 t, .int .i64 p, .int .u64 (n : Int), .slice oa m cap, .int .i64 to, .int .i64 pl] 47)
  obtain ⟨c0, c1, c2, c3, c4, c5, c6, c7, c8, c9⟩ := ract_cells n0
  have n1 := heap_alloc_new (w.alloc (.cells #[.int .i64 1, .int .i64 rk, .string i, .string v, .float .f64 t, .int .i64 p, .int .u64 (n : Int), .slice oa m cap, .int .i64 to, .int .i64 pl] 47)) (.cells #[.int .u8 1] 5)
  have cv := conv1 ((w.alloc (.cells #[.int .i64 1, .int .i64 rk, .string i, .string v, .float .f64 t, .int .i64 p, .int .u64 (n : Int), .slice oa m cap, .int .i64 to, .int .i64 pl] 47)).alloc (.cells #[.int .u8 1] 5)) (w.heap.size + 1) 1 1 rfl (by decide) (by rw [show w.heap.size + 1 = (w.alloc (.cells #[.int .i64 1, .int .i64 rk, .string i, .string v, .float .f64 t, .int .i64 p, .int .u64 (n : Int), .slice oa m cap, .int .i64 to, .int .i64 pl] 47)).heap.size by rw [alloc_sizeB]]; exact n1)
  have b1 := alloc_below (w.alloc (.cells #[.int .i64 1, .int .i64 rk, .string i, .string v, .float .f64 t, .int .i64 p, .int .u64 (n : Int), .slice oa m cap, .int .i64 to, .int .i64 pl] 47)) (.cells #[.int .u8 1] 5)
  obtain ⟨z0, hz0⟩ : ∃ z, z = wput 1 1 := ⟨_, rfl⟩
  have s0 : z0.size = 1 := by rw [hz0, wput_size]
  rw [← hz0] at cv hz
  have d := fun W (hb : Below ((w.alloc (.cells #[.int .i64 1, .int .i64 rk, .string i, .string v, .float .f64 t, .int .i64 p, .int .u64 (n : Int), .slice oa m cap, .int .i64 to, .int .i64 pl] 47)).alloc (.cells #[.int .u8 1] 5)).heap.size ((w.alloc (.cells #[.int .i64 1, .int .i64 rk, .string i, .string v, .float .f64 t, .int .i64 p, .int .u64 (n : Int), .slice oa m cap, .int .i64 to, .int .i64 pl] 47)).alloc (.cells #[.int .u8 1] 5)) W) => ract_cells (b_cells (b_cells n0 _ b1) W hb)
  have D := Lib.hid d
  have B0 := Lib.hid (stepQ b0 b1)
  have N0 := Lib.hid n0
  clear b0 b1 n0 n1 d hz0
  have pv := fun W => rPut_val n 8 W (wput n 8) hn (Lib.hid rfl)
  obtain ⟨y, hy⟩ : ∃ y, y = wput n 8 := ⟨_, rfl⟩
  have sy : y.size = 8 := by rw [hy, wput_size]
  rw [← hy] at pv hz
  have PV := Lib.hid pv
  clear pv hy D
  obtain ⟨z1, hz1⟩ : ∃ x, x = z0 ++ y := ⟨_, rfl⟩
  rw [← hz1] at hz
  have HZ1 := Lib.hid hz1
  have f1 : (9223372036854775807 < z0.size + y.size) = False := eq_false (by omega)
  clear s0 sy hz1
  go_enter Try.func25, Try.ntmps25
  go_wp2_with fail
  refine (PV.out _).mono ?_; rintro e w1 ⟨rfl, hb⟩
  go_wp2_with fail
  go_ret
  exact ⟨by rw [hz.out, HZ1.out]; rfl, below_step B0.out hb⟩
set_option maxRecDepth 100000 in
set_option maxHeartbeats 8000000 in
theorem rb_2 (w : World) (rk p to pl : Int) (i v : ByteArray) (t n m cap : Nat) (oa : Option Addr) (hn : n < 18446744073709551616) (z : ByteArray) (hz : Hid (z = wput 2 1 ++ wput n 1)) :
    Calls Try.prog 25 #[.agg #[.int .i64 2, .int .i64 rk, .string i, .string v, .float .f64 t, .int .i64 p, .int .u64 (n : Int), .slice oa m cap, .int .i64 to, .int .i64 pl]] w fun e w' => e = .returned (.string z) ∧ Below w.heap.size w w' := by
  have b0 := alloc_below w (.cells #[.int .i64 2, .int .i64 rk, .string i, .string v, .float .f64 t, .int .i64 p, .int .u64 (n : Int), .slice oa m cap, .int .i64 to, .int .i64 pl] 47)
  have n0 := heap_alloc_new w (.cells #[.int .i64 2, .int .i64 rk, .string i, .string v, .float .f64 t, .int .i64 p, .int .u64 (n : Int), .slice oa m cap, .int .i64 to, .int .i64 pl] 47)
  obtain ⟨c0, c1, c2, c3, c4, c5, c6, c7, c8, c9⟩ := ract_cells n0
  have n1 := heap_alloc_new (w.alloc (.cells #[.int .i64 2, .int .i64 rk, .string i, .string v, .float .f64 t, .int .i64 p, .int .u64 (n : Int), .slice oa m cap, .int .i64 to, .int .i64 pl] 47)) (.cells #[.int .u8 2] 5)
  have cv := conv1 ((w.alloc (.cells #[.int .i64 2, .int .i64 rk, .string i, .string v, .float .f64 t, .int .i64 p, .int .u64 (n : Int), .slice oa m cap, .int .i64 to, .int .i64 pl] 47)).alloc (.cells #[.int .u8 2] 5)) (w.heap.size + 1) 2 2 rfl (by decide) (by rw [show w.heap.size + 1 = (w.alloc (.cells #[.int .i64 2, .int .i64 rk, .string i, .string v, .float .f64 t, .int .i64 p, .int .u64 (n : Int), .slice oa m cap, .int .i64 to, .int .i64 pl] 47)).heap.size by rw [alloc_sizeB]]; exact n1)
  have b1 := alloc_below (w.alloc (.cells #[.int .i64 2, .int .i64 rk, .string i, .string v, .float .f64 t, .int .i64 p, .int .u64 (n : Int), .slice oa m cap, .int .i64 to, .int .i64 pl] 47)) (.cells #[.int .u8 2] 5)
  obtain ⟨z0, hz0⟩ : ∃ z, z = wput 2 1 := ⟨_, rfl⟩
  have s0 : z0.size = 1 := by rw [hz0, wput_size]
  rw [← hz0] at cv hz
  have d := fun W (hb : Below ((w.alloc (.cells #[.int .i64 2, .int .i64 rk, .string i, .string v, .float .f64 t, .int .i64 p, .int .u64 (n : Int), .slice oa m cap, .int .i64 to, .int .i64 pl] 47)).alloc (.cells #[.int .u8 2] 5)).heap.size ((w.alloc (.cells #[.int .i64 2, .int .i64 rk, .string i, .string v, .float .f64 t, .int .i64 p, .int .u64 (n : Int), .slice oa m cap, .int .i64 to, .int .i64 pl] 47)).alloc (.cells #[.int .u8 2] 5)) W) => ract_cells (b_cells (b_cells n0 _ b1) W hb)
  have D := Lib.hid d
  have B0 := Lib.hid (stepQ b0 b1)
  have N0 := Lib.hid n0
  clear b0 b1 n0 n1 d hz0
  have pv := fun W => rPut_val n 1 W (wput n 1) hn (Lib.hid rfl)
  obtain ⟨y, hy⟩ : ∃ y, y = wput n 1 := ⟨_, rfl⟩
  have sy : y.size = 1 := by rw [hy, wput_size]
  rw [← hy] at pv hz
  have PV := Lib.hid pv
  clear pv hy D
  obtain ⟨z1, hz1⟩ : ∃ x, x = z0 ++ y := ⟨_, rfl⟩
  rw [← hz1] at hz
  have HZ1 := Lib.hid hz1
  have f1 : (9223372036854775807 < z0.size + y.size) = False := eq_false (by omega)
  clear s0 sy hz1
  go_enter Try.func25, Try.ntmps25
  go_wp2_with fail
  refine (PV.out _).mono ?_; rintro e w1 ⟨rfl, hb⟩
  go_wp2_with fail
  go_ret
  exact ⟨by rw [hz.out, HZ1.out]; rfl, below_step B0.out hb⟩
set_option maxRecDepth 100000 in
set_option maxHeartbeats 8000000 in
theorem rb_4 (w : World) (rk p to pl : Int) (i v : ByteArray) (t n m cap : Nat) (oa : Option Addr) (hn : n < 18446744073709551616) (z : ByteArray) (hz : Hid (z = wput 4 1 ++ wput n 2)) :
    Calls Try.prog 25 #[.agg #[.int .i64 4, .int .i64 rk, .string i, .string v, .float .f64 t, .int .i64 p, .int .u64 (n : Int), .slice oa m cap, .int .i64 to, .int .i64 pl]] w fun e w' => e = .returned (.string z) ∧ Below w.heap.size w w' := by
  have b0 := alloc_below w (.cells #[.int .i64 4, .int .i64 rk, .string i, .string v, .float .f64 t, .int .i64 p, .int .u64 (n : Int), .slice oa m cap, .int .i64 to, .int .i64 pl] 47)
  have n0 := heap_alloc_new w (.cells #[.int .i64 4, .int .i64 rk, .string i, .string v, .float .f64 t, .int .i64 p, .int .u64 (n : Int), .slice oa m cap, .int .i64 to, .int .i64 pl] 47)
  obtain ⟨c0, c1, c2, c3, c4, c5, c6, c7, c8, c9⟩ := ract_cells n0
  have n1 := heap_alloc_new (w.alloc (.cells #[.int .i64 4, .int .i64 rk, .string i, .string v, .float .f64 t, .int .i64 p, .int .u64 (n : Int), .slice oa m cap, .int .i64 to, .int .i64 pl] 47)) (.cells #[.int .u8 4] 5)
  have cv := conv1 ((w.alloc (.cells #[.int .i64 4, .int .i64 rk, .string i, .string v, .float .f64 t, .int .i64 p, .int .u64 (n : Int), .slice oa m cap, .int .i64 to, .int .i64 pl] 47)).alloc (.cells #[.int .u8 4] 5)) (w.heap.size + 1) 4 4 rfl (by decide) (by rw [show w.heap.size + 1 = (w.alloc (.cells #[.int .i64 4, .int .i64 rk, .string i, .string v, .float .f64 t, .int .i64 p, .int .u64 (n : Int), .slice oa m cap, .int .i64 to, .int .i64 pl] 47)).heap.size by rw [alloc_sizeB]]; exact n1)
  have b1 := alloc_below (w.alloc (.cells #[.int .i64 4, .int .i64 rk, .string i, .string v, .float .f64 t, .int .i64 p, .int .u64 (n : Int), .slice oa m cap, .int .i64 to, .int .i64 pl] 47)) (.cells #[.int .u8 4] 5)
  obtain ⟨z0, hz0⟩ : ∃ z, z = wput 4 1 := ⟨_, rfl⟩
  have s0 : z0.size = 1 := by rw [hz0, wput_size]
  rw [← hz0] at cv hz
  have d := fun W (hb : Below ((w.alloc (.cells #[.int .i64 4, .int .i64 rk, .string i, .string v, .float .f64 t, .int .i64 p, .int .u64 (n : Int), .slice oa m cap, .int .i64 to, .int .i64 pl] 47)).alloc (.cells #[.int .u8 4] 5)).heap.size ((w.alloc (.cells #[.int .i64 4, .int .i64 rk, .string i, .string v, .float .f64 t, .int .i64 p, .int .u64 (n : Int), .slice oa m cap, .int .i64 to, .int .i64 pl] 47)).alloc (.cells #[.int .u8 4] 5)) W) => ract_cells (b_cells (b_cells n0 _ b1) W hb)
  have D := Lib.hid d
  have B0 := Lib.hid (stepQ b0 b1)
  have N0 := Lib.hid n0
  clear b0 b1 n0 n1 d hz0
  have pv := fun W => rPut_val n 2 W (wput n 2) hn (Lib.hid rfl)
  obtain ⟨y, hy⟩ : ∃ y, y = wput n 2 := ⟨_, rfl⟩
  have sy : y.size = 2 := by rw [hy, wput_size]
  rw [← hy] at pv hz
  have PV := Lib.hid pv
  clear pv hy D
  obtain ⟨z1, hz1⟩ : ∃ x, x = z0 ++ y := ⟨_, rfl⟩
  rw [← hz1] at hz
  have HZ1 := Lib.hid hz1
  have f1 : (9223372036854775807 < z0.size + y.size) = False := eq_false (by omega)
  clear s0 sy hz1
  go_enter Try.func25, Try.ntmps25
  go_wp2_with fail
  refine (PV.out _).mono ?_; rintro e w1 ⟨rfl, hb⟩
  go_wp2_with fail
  go_ret
  exact ⟨by rw [hz.out, HZ1.out]; rfl, below_step B0.out hb⟩
set_option maxRecDepth 100000 in
set_option maxHeartbeats 8000000 in
theorem rb_3 (w : World) (rk p to pl : Int) (i v : ByteArray) (t n m cap : Nat) (oa : Option Addr)  (z : ByteArray) (hz : Hid (z = wput 3 1)) :
    Calls Try.prog 25 #[.agg #[.int .i64 3, .int .i64 rk, .string i, .string v, .float .f64 t, .int .i64 p, .int .u64 (n : Int), .slice oa m cap, .int .i64 to, .int .i64 pl]] w fun e w' => e = .returned (.string z) ∧ Below w.heap.size w w' := by
  have b0 := alloc_below w (.cells #[.int .i64 3, .int .i64 rk, .string i, .string v, .float .f64 t, .int .i64 p, .int .u64 (n : Int), .slice oa m cap, .int .i64 to, .int .i64 pl] 47)
  have n0 := heap_alloc_new w (.cells #[.int .i64 3, .int .i64 rk, .string i, .string v, .float .f64 t, .int .i64 p, .int .u64 (n : Int), .slice oa m cap, .int .i64 to, .int .i64 pl] 47)
  obtain ⟨c0, c1, c2, c3, c4, c5, c6, c7, c8, c9⟩ := ract_cells n0
  have n1 := heap_alloc_new (w.alloc (.cells #[.int .i64 3, .int .i64 rk, .string i, .string v, .float .f64 t, .int .i64 p, .int .u64 (n : Int), .slice oa m cap, .int .i64 to, .int .i64 pl] 47)) (.cells #[.int .u8 3] 5)
  have cv := conv1 ((w.alloc (.cells #[.int .i64 3, .int .i64 rk, .string i, .string v, .float .f64 t, .int .i64 p, .int .u64 (n : Int), .slice oa m cap, .int .i64 to, .int .i64 pl] 47)).alloc (.cells #[.int .u8 3] 5)) (w.heap.size + 1) 3 3 rfl (by decide) (by rw [show w.heap.size + 1 = (w.alloc (.cells #[.int .i64 3, .int .i64 rk, .string i, .string v, .float .f64 t, .int .i64 p, .int .u64 (n : Int), .slice oa m cap, .int .i64 to, .int .i64 pl] 47)).heap.size by rw [alloc_sizeB]]; exact n1)
  have b1 := alloc_below (w.alloc (.cells #[.int .i64 3, .int .i64 rk, .string i, .string v, .float .f64 t, .int .i64 p, .int .u64 (n : Int), .slice oa m cap, .int .i64 to, .int .i64 pl] 47)) (.cells #[.int .u8 3] 5)
  obtain ⟨z0, hz0⟩ : ∃ z, z = wput 3 1 := ⟨_, rfl⟩
  have s0 : z0.size = 1 := by rw [hz0, wput_size]
  rw [← hz0] at cv hz
  have d := fun W (hb : Below ((w.alloc (.cells #[.int .i64 3, .int .i64 rk, .string i, .string v, .float .f64 t, .int .i64 p, .int .u64 (n : Int), .slice oa m cap, .int .i64 to, .int .i64 pl] 47)).alloc (.cells #[.int .u8 3] 5)).heap.size ((w.alloc (.cells #[.int .i64 3, .int .i64 rk, .string i, .string v, .float .f64 t, .int .i64 p, .int .u64 (n : Int), .slice oa m cap, .int .i64 to, .int .i64 pl] 47)).alloc (.cells #[.int .u8 3] 5)) W) => ract_cells (b_cells (b_cells n0 _ b1) W hb)
  have D := Lib.hid d
  have B0 := Lib.hid (stepQ b0 b1)
  have N0 := Lib.hid n0
  clear b0 b1 n0 n1 d hz0
  clear D
  go_enter Try.func25, Try.ntmps25
  go_wp2_with fail
  go_ret
  exact ⟨by rw [hz.out]; rfl, B0.out⟩
end Go.Proofs.Ytjkiofgllmjkcaa.G
