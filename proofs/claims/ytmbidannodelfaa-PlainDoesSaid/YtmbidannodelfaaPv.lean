/- What is wrong with a request; the time; a new store. -/
import Derived.Test.YtmbidannodelfaaPy
import Derived.Test.YtmbidannodelfaaHc
namespace Go.Proofs.Ytmbidannodelfaa.G
open Go.RowKit Go.Maps Go.Proofs.Ytmbidannodelfaa.WordPlain Go.Proofs.Ytmbidannodelfaa.Loose
set_option linter.unusedVariables false
set_option linter.unusedSimpArgs false

/-- what is wrong with a request by itself -/
def validE (r : Rq) : Int :=
  if r.kind < 0 ∨ 5 ≤ r.kind ∨ idB r.id = false then 1
  else if (r.kind = 0 ∨ r.kind = 3) ∧ valB r.va = false then 1
  else if r.kind = 0 ∨ r.kind = 2 then (F.tickE r.ttl : Int) else 0

set_option maxRecDepth 100000 in
set_option maxHeartbeats 2000000 in
theorem valid_neg (w : World) (k : Int) (i v : ByteArray) (x te : Nat) (tv : Nat) (zi zv : Bool) (hk : k < 0) (HT : Hid (∀ W : World, Calls Try.prog 40 #[.float .f64 x] W fun e w' => e = .returned (.tuple #[.int .u64 (tv : Nat), .int .i64 (te : Nat)]) ∧ W = w'))
    (HI : Hid (∀ W : World, Calls Try.prog 41 #[.string i] W fun e w' => e = .returned (.bool zi) ∧ W = w')) (HV : Hid (∀ W : World, Calls Try.prog 42 #[.string v] W fun e w' => e = .returned (.bool zv) ∧ W = w')) :
    Calls Try.prog 21 #[.agg #[.int .i64 k, .string i, .string v, .float .f64 x]] w fun e w' => e = .returned (.int .i64 1) ∧ Below w.heap.size w w' := by
  have hb := (Below.refl w.heap.size w).alloc (Nat.le_refl _) (.cells #[.int .i64 k, .string i, .string v, .float .f64 x] 32)
  have HB := Lib.hid hb
  clear hb
  go_enter Try.func21, Try.ntmps21
  go_wp2_with fail
  refine (HT.out _).mono ?_; rintro e w1 ⟨rfl, rfl⟩
  go_wp2_with fail
  go_ret
  exact ⟨rfl, HB.out⟩
set_option maxRecDepth 100000 in
set_option maxHeartbeats 2000000 in
theorem valid_big (w : World) (k : Int) (i v : ByteArray) (x te : Nat) (tv : Nat) (zi zv : Bool) (h0 : (k < 0) = False) (hk : k ≥ 5) (HT : Hid (∀ W : World, Calls Try.prog 40 #[.float .f64 x] W fun e w' => e = .returned (.tuple #[.int .u64 (tv : Nat), .int .i64 (te : Nat)]) ∧ W = w'))
    (HI : Hid (∀ W : World, Calls Try.prog 41 #[.string i] W fun e w' => e = .returned (.bool zi) ∧ W = w')) (HV : Hid (∀ W : World, Calls Try.prog 42 #[.string v] W fun e w' => e = .returned (.bool zv) ∧ W = w')) :
    Calls Try.prog 21 #[.agg #[.int .i64 k, .string i, .string v, .float .f64 x]] w fun e w' => e = .returned (.int .i64 1) ∧ Below w.heap.size w w' := by
  have hb := (Below.refl w.heap.size w).alloc (Nat.le_refl _) (.cells #[.int .i64 k, .string i, .string v, .float .f64 x] 32)
  have HB := Lib.hid hb
  clear hb
  go_enter Try.func21, Try.ntmps21
  go_wp2_with fail
  refine (HT.out _).mono ?_; rintro e w1 ⟨rfl, rfl⟩
  go_wp2_with fail
  go_ret
  exact ⟨rfl, HB.out⟩
set_option maxRecDepth 100000 in
set_option maxHeartbeats 2000000 in
theorem valid_0_i (w : World) (i v : ByteArray) (x te : Nat) (tv : Nat) (zi zv : Bool)  (HT : Hid (∀ W : World, Calls Try.prog 40 #[.float .f64 x] W fun e w' => e = .returned (.tuple #[.int .u64 (tv : Nat), .int .i64 (te : Nat)]) ∧ W = w'))
    (HI : Hid (∀ W : World, Calls Try.prog 41 #[.string i] W fun e w' => e = .returned (.bool false) ∧ W = w')) (HV : Hid (∀ W : World, Calls Try.prog 42 #[.string v] W fun e w' => e = .returned (.bool zv) ∧ W = w')) :
    Calls Try.prog 21 #[.agg #[.int .i64 0, .string i, .string v, .float .f64 x]] w fun e w' => e = .returned (.int .i64 1) ∧ Below w.heap.size w w' := by
  have hb := (Below.refl w.heap.size w).alloc (Nat.le_refl _) (.cells #[.int .i64 0, .string i, .string v, .float .f64 x] 32)
  have HB := Lib.hid hb
  clear hb
  go_enter Try.func21, Try.ntmps21
  go_wp2_with fail
  refine (HT.out _).mono ?_; rintro e w1 ⟨rfl, rfl⟩
  go_wp2_with fail
  refine (HI.out _).mono ?_; rintro e w1 ⟨rfl, rfl⟩
  go_wp2_with fail
  go_ret
  exact ⟨rfl, HB.out⟩
set_option maxRecDepth 100000 in
set_option maxHeartbeats 2000000 in
theorem valid_0_v (w : World) (i v : ByteArray) (x te : Nat) (tv : Nat)  (HT : Hid (∀ W : World, Calls Try.prog 40 #[.float .f64 x] W fun e w' => e = .returned (.tuple #[.int .u64 (tv : Nat), .int .i64 (te : Nat)]) ∧ W = w'))
    (HI : Hid (∀ W : World, Calls Try.prog 41 #[.string i] W fun e w' => e = .returned (.bool true) ∧ W = w')) (HV : Hid (∀ W : World, Calls Try.prog 42 #[.string v] W fun e w' => e = .returned (.bool false) ∧ W = w')) :
    Calls Try.prog 21 #[.agg #[.int .i64 0, .string i, .string v, .float .f64 x]] w fun e w' => e = .returned (.int .i64 1) ∧ Below w.heap.size w w' := by
  have hb := (Below.refl w.heap.size w).alloc (Nat.le_refl _) (.cells #[.int .i64 0, .string i, .string v, .float .f64 x] 32)
  have HB := Lib.hid hb
  clear hb
  go_enter Try.func21, Try.ntmps21
  go_wp2_with fail
  refine (HT.out _).mono ?_; rintro e w1 ⟨rfl, rfl⟩
  go_wp2_with fail
  refine (HI.out _).mono ?_; rintro e w1 ⟨rfl, rfl⟩
  go_wp2_with fail
  refine (HV.out _).mono ?_; rintro e w1 ⟨rfl, rfl⟩
  go_wp2_with fail
  go_ret
  exact ⟨rfl, HB.out⟩
set_option maxRecDepth 100000 in
set_option maxHeartbeats 2000000 in
theorem valid_0_ok (w : World) (i v : ByteArray) (x te : Nat) (tv : Nat)  (HT : Hid (∀ W : World, Calls Try.prog 40 #[.float .f64 x] W fun e w' => e = .returned (.tuple #[.int .u64 (tv : Nat), .int .i64 (te : Nat)]) ∧ W = w'))
    (HI : Hid (∀ W : World, Calls Try.prog 41 #[.string i] W fun e w' => e = .returned (.bool true) ∧ W = w')) (HV : Hid (∀ W : World, Calls Try.prog 42 #[.string v] W fun e w' => e = .returned (.bool true) ∧ W = w')) :
    Calls Try.prog 21 #[.agg #[.int .i64 0, .string i, .string v, .float .f64 x]] w fun e w' => e = .returned (.int .i64 (te : Nat)) ∧ Below w.heap.size w w' := by
  have hb := (Below.refl w.heap.size w).alloc (Nat.le_refl _) (.cells #[.int .i64 0, .string i, .string v, .float .f64 x] 32)
  have HB := Lib.hid hb
  clear hb
  go_enter Try.func21, Try.ntmps21
  go_wp2_with fail
  refine (HT.out _).mono ?_; rintro e w1 ⟨rfl, rfl⟩
  go_wp2_with fail
  refine (HI.out _).mono ?_; rintro e w1 ⟨rfl, rfl⟩
  go_wp2_with fail
  refine (HV.out _).mono ?_; rintro e w1 ⟨rfl, rfl⟩
  go_wp2_with fail
  go_ret
  exact ⟨rfl, HB.out⟩
set_option maxRecDepth 100000 in
set_option maxHeartbeats 2000000 in
theorem valid_1_i (w : World) (i v : ByteArray) (x te : Nat) (tv : Nat) (zi zv : Bool)  (HT : Hid (∀ W : World, Calls Try.prog 40 #[.float .f64 x] W fun e w' => e = .returned (.tuple #[.int .u64 (tv : Nat), .int .i64 (te : Nat)]) ∧ W = w'))
    (HI : Hid (∀ W : World, Calls Try.prog 41 #[.string i] W fun e w' => e = .returned (.bool false) ∧ W = w')) (HV : Hid (∀ W : World, Calls Try.prog 42 #[.string v] W fun e w' => e = .returned (.bool zv) ∧ W = w')) :
    Calls Try.prog 21 #[.agg #[.int .i64 1, .string i, .string v, .float .f64 x]] w fun e w' => e = .returned (.int .i64 1) ∧ Below w.heap.size w w' := by
  have hb := (Below.refl w.heap.size w).alloc (Nat.le_refl _) (.cells #[.int .i64 1, .string i, .string v, .float .f64 x] 32)
  have HB := Lib.hid hb
  clear hb
  go_enter Try.func21, Try.ntmps21
  go_wp2_with fail
  refine (HT.out _).mono ?_; rintro e w1 ⟨rfl, rfl⟩
  go_wp2_with fail
  refine (HI.out _).mono ?_; rintro e w1 ⟨rfl, rfl⟩
  go_wp2_with fail
  go_ret
  exact ⟨rfl, HB.out⟩
set_option maxRecDepth 100000 in
set_option maxHeartbeats 2000000 in
theorem valid_1_ok (w : World) (i v : ByteArray) (x te : Nat) (tv : Nat) (zi zv : Bool)  (HT : Hid (∀ W : World, Calls Try.prog 40 #[.float .f64 x] W fun e w' => e = .returned (.tuple #[.int .u64 (tv : Nat), .int .i64 (te : Nat)]) ∧ W = w'))
    (HI : Hid (∀ W : World, Calls Try.prog 41 #[.string i] W fun e w' => e = .returned (.bool true) ∧ W = w')) (HV : Hid (∀ W : World, Calls Try.prog 42 #[.string v] W fun e w' => e = .returned (.bool zv) ∧ W = w')) :
    Calls Try.prog 21 #[.agg #[.int .i64 1, .string i, .string v, .float .f64 x]] w fun e w' => e = .returned (.int .i64 0) ∧ Below w.heap.size w w' := by
  have hb := (Below.refl w.heap.size w).alloc (Nat.le_refl _) (.cells #[.int .i64 1, .string i, .string v, .float .f64 x] 32)
  have HB := Lib.hid hb
  clear hb
  go_enter Try.func21, Try.ntmps21
  go_wp2_with fail
  refine (HT.out _).mono ?_; rintro e w1 ⟨rfl, rfl⟩
  go_wp2_with fail
  refine (HI.out _).mono ?_; rintro e w1 ⟨rfl, rfl⟩
  go_wp2_with fail
  go_ret
  exact ⟨rfl, HB.out⟩
set_option maxRecDepth 100000 in
set_option maxHeartbeats 2000000 in
theorem valid_2_i (w : World) (i v : ByteArray) (x te : Nat) (tv : Nat) (zi zv : Bool)  (HT : Hid (∀ W : World, Calls Try.prog 40 #[.float .f64 x] W fun e w' => e = .returned (.tuple #[.int .u64 (tv : Nat), .int .i64 (te : Nat)]) ∧ W = w'))
    (HI : Hid (∀ W : World, Calls Try.prog 41 #[.string i] W fun e w' => e = .returned (.bool false) ∧ W = w')) (HV : Hid (∀ W : World, Calls Try.prog 42 #[.string v] W fun e w' => e = .returned (.bool zv) ∧ W = w')) :
    Calls Try.prog 21 #[.agg #[.int .i64 2, .string i, .string v, .float .f64 x]] w fun e w' => e = .returned (.int .i64 1) ∧ Below w.heap.size w w' := by
  have hb := (Below.refl w.heap.size w).alloc (Nat.le_refl _) (.cells #[.int .i64 2, .string i, .string v, .float .f64 x] 32)
  have HB := Lib.hid hb
  clear hb
  go_enter Try.func21, Try.ntmps21
  go_wp2_with fail
  refine (HT.out _).mono ?_; rintro e w1 ⟨rfl, rfl⟩
  go_wp2_with fail
  refine (HI.out _).mono ?_; rintro e w1 ⟨rfl, rfl⟩
  go_wp2_with fail
  go_ret
  exact ⟨rfl, HB.out⟩
set_option maxRecDepth 100000 in
set_option maxHeartbeats 2000000 in
theorem valid_2_ok (w : World) (i v : ByteArray) (x te : Nat) (tv : Nat) (zi zv : Bool)  (HT : Hid (∀ W : World, Calls Try.prog 40 #[.float .f64 x] W fun e w' => e = .returned (.tuple #[.int .u64 (tv : Nat), .int .i64 (te : Nat)]) ∧ W = w'))
    (HI : Hid (∀ W : World, Calls Try.prog 41 #[.string i] W fun e w' => e = .returned (.bool true) ∧ W = w')) (HV : Hid (∀ W : World, Calls Try.prog 42 #[.string v] W fun e w' => e = .returned (.bool zv) ∧ W = w')) :
    Calls Try.prog 21 #[.agg #[.int .i64 2, .string i, .string v, .float .f64 x]] w fun e w' => e = .returned (.int .i64 (te : Nat)) ∧ Below w.heap.size w w' := by
  have hb := (Below.refl w.heap.size w).alloc (Nat.le_refl _) (.cells #[.int .i64 2, .string i, .string v, .float .f64 x] 32)
  have HB := Lib.hid hb
  clear hb
  go_enter Try.func21, Try.ntmps21
  go_wp2_with fail
  refine (HT.out _).mono ?_; rintro e w1 ⟨rfl, rfl⟩
  go_wp2_with fail
  refine (HI.out _).mono ?_; rintro e w1 ⟨rfl, rfl⟩
  go_wp2_with fail
  go_ret
  exact ⟨rfl, HB.out⟩
set_option maxRecDepth 100000 in
set_option maxHeartbeats 2000000 in
theorem valid_3_i (w : World) (i v : ByteArray) (x te : Nat) (tv : Nat) (zi zv : Bool)  (HT : Hid (∀ W : World, Calls Try.prog 40 #[.float .f64 x] W fun e w' => e = .returned (.tuple #[.int .u64 (tv : Nat), .int .i64 (te : Nat)]) ∧ W = w'))
    (HI : Hid (∀ W : World, Calls Try.prog 41 #[.string i] W fun e w' => e = .returned (.bool false) ∧ W = w')) (HV : Hid (∀ W : World, Calls Try.prog 42 #[.string v] W fun e w' => e = .returned (.bool zv) ∧ W = w')) :
    Calls Try.prog 21 #[.agg #[.int .i64 3, .string i, .string v, .float .f64 x]] w fun e w' => e = .returned (.int .i64 1) ∧ Below w.heap.size w w' := by
  have hb := (Below.refl w.heap.size w).alloc (Nat.le_refl _) (.cells #[.int .i64 3, .string i, .string v, .float .f64 x] 32)
  have HB := Lib.hid hb
  clear hb
  go_enter Try.func21, Try.ntmps21
  go_wp2_with fail
  refine (HT.out _).mono ?_; rintro e w1 ⟨rfl, rfl⟩
  go_wp2_with fail
  refine (HI.out _).mono ?_; rintro e w1 ⟨rfl, rfl⟩
  go_wp2_with fail
  go_ret
  exact ⟨rfl, HB.out⟩
set_option maxRecDepth 100000 in
set_option maxHeartbeats 2000000 in
theorem valid_3_v (w : World) (i v : ByteArray) (x te : Nat) (tv : Nat)  (HT : Hid (∀ W : World, Calls Try.prog 40 #[.float .f64 x] W fun e w' => e = .returned (.tuple #[.int .u64 (tv : Nat), .int .i64 (te : Nat)]) ∧ W = w'))
    (HI : Hid (∀ W : World, Calls Try.prog 41 #[.string i] W fun e w' => e = .returned (.bool true) ∧ W = w')) (HV : Hid (∀ W : World, Calls Try.prog 42 #[.string v] W fun e w' => e = .returned (.bool false) ∧ W = w')) :
    Calls Try.prog 21 #[.agg #[.int .i64 3, .string i, .string v, .float .f64 x]] w fun e w' => e = .returned (.int .i64 1) ∧ Below w.heap.size w w' := by
  have hb := (Below.refl w.heap.size w).alloc (Nat.le_refl _) (.cells #[.int .i64 3, .string i, .string v, .float .f64 x] 32)
  have HB := Lib.hid hb
  clear hb
  go_enter Try.func21, Try.ntmps21
  go_wp2_with fail
  refine (HT.out _).mono ?_; rintro e w1 ⟨rfl, rfl⟩
  go_wp2_with fail
  refine (HI.out _).mono ?_; rintro e w1 ⟨rfl, rfl⟩
  go_wp2_with fail
  refine (HV.out _).mono ?_; rintro e w1 ⟨rfl, rfl⟩
  go_wp2_with fail
  go_ret
  exact ⟨rfl, HB.out⟩
set_option maxRecDepth 100000 in
set_option maxHeartbeats 2000000 in
theorem valid_3_ok (w : World) (i v : ByteArray) (x te : Nat) (tv : Nat)  (HT : Hid (∀ W : World, Calls Try.prog 40 #[.float .f64 x] W fun e w' => e = .returned (.tuple #[.int .u64 (tv : Nat), .int .i64 (te : Nat)]) ∧ W = w'))
    (HI : Hid (∀ W : World, Calls Try.prog 41 #[.string i] W fun e w' => e = .returned (.bool true) ∧ W = w')) (HV : Hid (∀ W : World, Calls Try.prog 42 #[.string v] W fun e w' => e = .returned (.bool true) ∧ W = w')) :
    Calls Try.prog 21 #[.agg #[.int .i64 3, .string i, .string v, .float .f64 x]] w fun e w' => e = .returned (.int .i64 0) ∧ Below w.heap.size w w' := by
  have hb := (Below.refl w.heap.size w).alloc (Nat.le_refl _) (.cells #[.int .i64 3, .string i, .string v, .float .f64 x] 32)
  have HB := Lib.hid hb
  clear hb
  go_enter Try.func21, Try.ntmps21
  go_wp2_with fail
  refine (HT.out _).mono ?_; rintro e w1 ⟨rfl, rfl⟩
  go_wp2_with fail
  refine (HI.out _).mono ?_; rintro e w1 ⟨rfl, rfl⟩
  go_wp2_with fail
  refine (HV.out _).mono ?_; rintro e w1 ⟨rfl, rfl⟩
  go_wp2_with fail
  go_ret
  exact ⟨rfl, HB.out⟩
set_option maxRecDepth 100000 in
set_option maxHeartbeats 2000000 in
theorem valid_4_i (w : World) (i v : ByteArray) (x te : Nat) (tv : Nat) (zi zv : Bool)  (HT : Hid (∀ W : World, Calls Try.prog 40 #[.float .f64 x] W fun e w' => e = .returned (.tuple #[.int .u64 (tv : Nat), .int .i64 (te : Nat)]) ∧ W = w'))
    (HI : Hid (∀ W : World, Calls Try.prog 41 #[.string i] W fun e w' => e = .returned (.bool false) ∧ W = w')) (HV : Hid (∀ W : World, Calls Try.prog 42 #[.string v] W fun e w' => e = .returned (.bool zv) ∧ W = w')) :
    Calls Try.prog 21 #[.agg #[.int .i64 4, .string i, .string v, .float .f64 x]] w fun e w' => e = .returned (.int .i64 1) ∧ Below w.heap.size w w' := by
  have hb := (Below.refl w.heap.size w).alloc (Nat.le_refl _) (.cells #[.int .i64 4, .string i, .string v, .float .f64 x] 32)
  have HB := Lib.hid hb
  clear hb
  go_enter Try.func21, Try.ntmps21
  go_wp2_with fail
  refine (HT.out _).mono ?_; rintro e w1 ⟨rfl, rfl⟩
  go_wp2_with fail
  refine (HI.out _).mono ?_; rintro e w1 ⟨rfl, rfl⟩
  go_wp2_with fail
  go_ret
  exact ⟨rfl, HB.out⟩
set_option maxRecDepth 100000 in
set_option maxHeartbeats 2000000 in
theorem valid_4_ok (w : World) (i v : ByteArray) (x te : Nat) (tv : Nat) (zi zv : Bool)  (HT : Hid (∀ W : World, Calls Try.prog 40 #[.float .f64 x] W fun e w' => e = .returned (.tuple #[.int .u64 (tv : Nat), .int .i64 (te : Nat)]) ∧ W = w'))
    (HI : Hid (∀ W : World, Calls Try.prog 41 #[.string i] W fun e w' => e = .returned (.bool true) ∧ W = w')) (HV : Hid (∀ W : World, Calls Try.prog 42 #[.string v] W fun e w' => e = .returned (.bool zv) ∧ W = w')) :
    Calls Try.prog 21 #[.agg #[.int .i64 4, .string i, .string v, .float .f64 x]] w fun e w' => e = .returned (.int .i64 0) ∧ Below w.heap.size w w' := by
  have hb := (Below.refl w.heap.size w).alloc (Nat.le_refl _) (.cells #[.int .i64 4, .string i, .string v, .float .f64 x] 32)
  have HB := Lib.hid hb
  clear hb
  go_enter Try.func21, Try.ntmps21
  go_wp2_with fail
  refine (HT.out _).mono ?_; rintro e w1 ⟨rfl, rfl⟩
  go_wp2_with fail
  refine (HI.out _).mono ?_; rintro e w1 ⟨rfl, rfl⟩
  go_wp2_with fail
  go_ret
  exact ⟨rfl, HB.out⟩

theorem grows_of_same {f : FuncId} {args : Array Value} {v : Value} (h : ∀ w : World, Calls Try.prog f args w fun e w' => e = .returned v ∧ w = w') : ∀ w : World, Calls Try.prog f args w fun e w' => e = .returned v ∧ w = w' := h
theorem Valid_val (r : Rq) (w : World) (hr : r.Kind) : Calls Try.prog 21 #[.agg r.row] w fun e w' => e = .returned (.int .i64 (validE r)) ∧ Below w.heap.size w w' := by
  have HT := Lib.hid (fun W => Ticks_val r.ttl W hr.ttl)
  have HI := Lib.hid (fun W => ID_val r.id W (idB r.id) hr.id (Lib.hid rfl))
  have HV := Lib.hid (fun W => Value_val r.va W (valB r.va) (Lib.hid rfl))
  obtain ⟨k, i, v, x⟩ := r
  simp only [Rq.row] at HT HI HV ⊢
  unfold validE
  simp only
  by_cases h0 : k < 0
  · rw [if_pos (Or.inl h0)]; exact valid_neg w k i v x _ _ _ _ h0 HT HI HV
  by_cases h5 : 5 ≤ k
  · rw [if_pos (Or.inr (Or.inl h5))]; exact valid_big w k i v x _ _ _ _ (eq_false h0) h5 HT HI HV
  cases hi : idB i with
  | false =>
    rw [hi] at HI
    rw [if_pos (Or.inr (Or.inr rfl))]
    have hk : k = 0 ∨ k = 1 ∨ k = 2 ∨ k = 3 ∨ k = 4 := by omega
    rcases hk with rfl | rfl | rfl | rfl | rfl
    · exact valid_0_i w i v x _ _ true _ HT HI HV
    · exact valid_1_i w i v x _ _ true _ HT HI HV
    · exact valid_2_i w i v x _ _ true _ HT HI HV
    · exact valid_3_i w i v x _ _ true _ HT HI HV
    · exact valid_4_i w i v x _ _ true _ HT HI HV
  | true =>
    rw [hi] at HI
    rw [if_neg (by simp; omega)]
    have hk : k = 0 ∨ k = 1 ∨ k = 2 ∨ k = 3 ∨ k = 4 := by omega
    cases hv : valB v with
    | false =>
      rw [hv] at HV
      rcases hk with rfl | rfl | rfl | rfl | rfl
      · rw [if_pos ⟨Or.inl rfl, rfl⟩]; exact valid_0_v w i v x _ _ HT HI HV
      · rw [if_neg (by decide), if_neg (by decide)]; exact valid_1_ok w i v x _ _ true _ HT HI HV
      · rw [if_neg (by decide), if_pos (by decide)]; exact valid_2_ok w i v x _ _ true _ HT HI HV
      · rw [if_pos ⟨Or.inr rfl, rfl⟩]; exact valid_3_v w i v x _ _ HT HI HV
      · rw [if_neg (by decide), if_neg (by decide)]; exact valid_4_ok w i v x _ _ true _ HT HI HV
    | true =>
      rw [hv] at HV
      rcases hk with rfl | rfl | rfl | rfl | rfl
      · rw [if_neg (by decide), if_pos (by decide)]; exact valid_0_ok w i v x _ _ HT HI HV
      · rw [if_neg (by decide), if_neg (by decide)]; exact valid_1_ok w i v x _ _ true _ HT HI HV
      · rw [if_neg (by decide), if_pos (by decide)]; exact valid_2_ok w i v x _ _ true _ HT HI HV
      · rw [if_neg (by decide), if_neg (by decide)]; exact valid_3_ok w i v x _ _ HT HI HV
      · rw [if_neg (by decide), if_neg (by decide)]; exact valid_4_ok w i v x _ _ true _ HT HI HV

def chg (k : Int) : Bool := decide (0 ≤ k ∧ k < 5 ∧ k ≠ 1)
set_option maxRecDepth 100000 in
theorem chg_neg (w : World) (k : Int) (i v : ByteArray) (x : Nat) (h0 : (k ≥ 0) = False) : Calls Try.prog 23 #[.agg #[.int .i64 k, .string i, .string v, .float .f64 x]] w fun e w' => e = .returned (.bool false) ∧ Below w.heap.size w w' := by
  have hb := (Below.refl w.heap.size w).alloc (Nat.le_refl _) (.cells #[.int .i64 k, .string i, .string v, .float .f64 x] 32)
  have HB := Lib.hid hb
  clear hb
  go_enter Try.func23, Try.ntmps23
  go_wp2_with fail
  go_ret
  exact ⟨rfl, HB.out⟩
set_option maxRecDepth 100000 in
theorem chg_big (w : World) (k : Int) (i v : ByteArray) (x : Nat) (h0 : k ≥ 0) (h1 : (k < 5) = False) : Calls Try.prog 23 #[.agg #[.int .i64 k, .string i, .string v, .float .f64 x]] w fun e w' => e = .returned (.bool false) ∧ Below w.heap.size w w' := by
  have hb := (Below.refl w.heap.size w).alloc (Nat.le_refl _) (.cells #[.int .i64 k, .string i, .string v, .float .f64 x] 32)
  have HB := Lib.hid hb
  clear hb
  go_enter Try.func23, Try.ntmps23
  go_wp2_with fail
  go_ret
  exact ⟨rfl, HB.out⟩
set_option maxRecDepth 100000 in
theorem chg_one (w : World) (k : Int) (i v : ByteArray) (x : Nat) (h0 : k = 1) : Calls Try.prog 23 #[.agg #[.int .i64 k, .string i, .string v, .float .f64 x]] w fun e w' => e = .returned (.bool false) ∧ Below w.heap.size w w' := by
  subst h0
  have hb := (Below.refl w.heap.size w).alloc (Nat.le_refl _) (.cells #[.int .i64 1, .string i, .string v, .float .f64 x] 32)
  have HB := Lib.hid hb
  clear hb
  go_enter Try.func23, Try.ntmps23
  go_wp2_with fail
  go_ret
  exact ⟨rfl, HB.out⟩
set_option maxRecDepth 100000 in
theorem chg_yes (w : World) (k : Int) (i v : ByteArray) (x : Nat) (h0 : k ≥ 0) (h1 : k < 5) (h2 : (k != 1) = true) : Calls Try.prog 23 #[.agg #[.int .i64 k, .string i, .string v, .float .f64 x]] w fun e w' => e = .returned (.bool true) ∧ Below w.heap.size w w' := by
  have hb := (Below.refl w.heap.size w).alloc (Nat.le_refl _) (.cells #[.int .i64 k, .string i, .string v, .float .f64 x] 32)
  have HB := Lib.hid hb
  clear hb
  go_enter Try.func23, Try.ntmps23
  go_wp2_with fail
  go_ret
  exact ⟨rfl, HB.out⟩
theorem Changes_val (r : Rq) (w : World) : Calls Try.prog 23 #[.agg r.row] w fun e w' => e = .returned (.bool (chg r.kind)) ∧ Below w.heap.size w w' := by
  obtain ⟨k, i, v, x⟩ := r
  unfold chg
  by_cases h0 : 0 ≤ k
  · by_cases h5 : k < 5
    · by_cases h1 : k = 1
      · subst h1
        rw [decide_eq_false (show ¬ ((0 : Int) ≤ 1 ∧ (1 : Int) < 5 ∧ (1 : Int) ≠ 1) by decide)]
        exact chg_one w 1 i v x rfl
      · rw [decide_eq_true (show 0 ≤ k ∧ k < 5 ∧ k ≠ 1 from ⟨h0, h5, h1⟩)]; exact chg_yes w k i v x h0 h5 (bne_iff_ne.2 h1)
    · rw [decide_eq_false (show ¬ (0 ≤ k ∧ k < 5 ∧ k ≠ 1) from fun h => h5 h.2.1)]; exact chg_big w k i v x h0 (eq_false h5)
  · rw [decide_eq_false (show ¬ (0 ≤ k ∧ k < 5 ∧ k ≠ 1) from fun h => h0 h.1)]; exact chg_neg w k i v x (eq_false h0)
set_option maxRecDepth 100000 in
theorem Now_val (w : World) (p b n now : Nat) (q : Int) (f : ByteArray → Option Ses) (h : PL w p b n now q f) :
    Calls Try.prog 17 #[.pointer (some ⟨p, 0, none⟩)] w fun e w' => e = .returned (.int .u64 (now : Nat)) ∧ Below w.heap.size w w' := by
  have c0 := (cell_of_row _ _ 0 _ _ _ h.cells).trans (show _ = some (.int .u64 (now : Int)) from rfl)
  clear h
  go_enter Try.func17, Try.ntmps17
  go_wp2_with fail
  go_ret
  exact ⟨rfl, Below.refl _ _⟩
set_option maxRecDepth 100000 in
theorem New_val (w : World) (now : Nat) (q : Int) (hn : now < 18446744073709551616) :
    Calls Try.prog 9 #[.int .i64 q, .int .u64 (now : Nat)] w fun e w' => e = .returned (.pointer (some ⟨w.heap.size + 1, 0, none⟩)) ∧ PL w' (w.heap.size + 1) w.heap.size 0 now q (fun _ => none) ∧ Below w.heap.size w w' ∧ w'.heap.size = w.heap.size + 2 := by
  have hm := MapIs.made w
  have hsz := alloc_sizeR w (.map #[] 0)
  have hb1 := (Below.refl w.heap.size w).alloc (Nat.le_refl _) (.map #[] 0)
  have hb2 := hb1.alloc (by rw [hsz]; omega) (.cells #[.int .u64 (now : Int), .int .i64 q, .map (some w.heap.size)] 67)
  have n2 := heap_alloc_new (w.alloc (.map #[] 0)) (.cells #[.int .u64 (now : Int), .int .i64 q, .map (some w.heap.size)] 67)
  rw [hsz] at n2
  have hpl : PL ((w.alloc (.map #[] 0)).alloc (.cells #[.int .u64 (now : Int), .int .i64 q, .map (some w.heap.size)] 67)) (w.heap.size + 1) w.heap.size 0 now q (fun _ => none) :=
    ⟨n2, hm.below ((Below.refl _ _).alloc (Nat.le_refl _) _), (fun k s h => by cases h), hn⟩
  have hs2 := alloc_sizeR (w.alloc (.map #[] 0)) (.cells #[.int .u64 (now : Int), .int .i64 q, .map (some w.heap.size)] 67)
  rw [hsz] at hs2
  have HPL := Lib.hid hpl
  have HB := Lib.hid hb2
  have HS := Lib.hid hs2
  have hmm := @run_makeMap Try.prog
  clear hm hsz hb1 hb2 n2 hpl hs2
  go_enter Try.func9, Try.ntmps9
  go_wp2_with fail
  go_ret
  exact ⟨rfl, HPL.out, HB.out, HS.out⟩
end Go.Proofs.Ytmbidannodelfaa.G
