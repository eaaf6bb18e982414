/- The document: what is wrong with a request, may it change something; what a law makes of requests and replies. -/
import Derived.Test.YtmbidannodelfaaQd
namespace Go.Proofs.Ytmbidannodelfaa.G
open Go.RowKit Go.Maps Go.Proofs.Ytmbidannodelfaa.WordPlain Go.Proofs.Ytmbidannodelfaa.Loose
set_option linter.unusedVariables false
set_option linter.unusedSimpArgs false

set_option maxRecDepth 100000 in
set_option maxHeartbeats 2000000 in
theorem rvalid_neg (w : World) (k : Int) (i v : ByteArray) (x te : Nat) (tv : Nat) (zi zv : Bool) (hk : k < 0) (HT : Hid (∀ W : World, Calls Try.prog 36 #[.float .f64 x] W fun e w' => e = .returned (.tuple #[.int .u64 (tv : Nat), .int .i64 (te : Nat)]) ∧ W = w'))
    (HI : Hid (∀ W : World, Calls Try.prog 43 #[.string i] W fun e w' => e = .returned (.bool zi) ∧ W = w')) (HV : Hid (∀ W : World, Calls Try.prog 44 #[.string v] W fun e w' => e = .returned (.bool zv) ∧ W = w')) :
    Calls Try.prog 22 #[.agg #[.int .i64 k, .string i, .string v, .float .f64 x]] w fun e w' => e = .returned (.int .i64 1) ∧ Below w.heap.size w w' := by
  have hb := (Below.refl w.heap.size w).alloc (Nat.le_refl _) (.cells #[.int .i64 k, .string i, .string v, .float .f64 x] 44)
  have HB := Lib.hid hb
  clear hb
  go_enter Try.func22, Try.ntmps22
  go_wp2_with fail
  go_ret
  exact ⟨rfl, HB.out⟩
set_option maxRecDepth 100000 in
set_option maxHeartbeats 2000000 in
theorem rvalid_big (w : World) (k : Int) (i v : ByteArray) (x te : Nat) (tv : Nat) (zi zv : Bool) (h0 : (k < 0) = False) (hk : k > 4) (HT : Hid (∀ W : World, Calls Try.prog 36 #[.float .f64 x] W fun e w' => e = .returned (.tuple #[.int .u64 (tv : Nat), .int .i64 (te : Nat)]) ∧ W = w'))
    (HI : Hid (∀ W : World, Calls Try.prog 43 #[.string i] W fun e w' => e = .returned (.bool zi) ∧ W = w')) (HV : Hid (∀ W : World, Calls Try.prog 44 #[.string v] W fun e w' => e = .returned (.bool zv) ∧ W = w')) :
    Calls Try.prog 22 #[.agg #[.int .i64 k, .string i, .string v, .float .f64 x]] w fun e w' => e = .returned (.int .i64 1) ∧ Below w.heap.size w w' := by
  have hb := (Below.refl w.heap.size w).alloc (Nat.le_refl _) (.cells #[.int .i64 k, .string i, .string v, .float .f64 x] 44)
  have HB := Lib.hid hb
  clear hb
  go_enter Try.func22, Try.ntmps22
  go_wp2_with fail
  go_ret
  exact ⟨rfl, HB.out⟩
set_option maxRecDepth 100000 in
set_option maxHeartbeats 2000000 in
theorem rvalid_0_i (w : World) (i v : ByteArray) (x te : Nat) (tv : Nat) (zi zv : Bool)  (HT : Hid (∀ W : World, Calls Try.prog 36 #[.float .f64 x] W fun e w' => e = .returned (.tuple #[.int .u64 (tv : Nat), .int .i64 (te : Nat)]) ∧ W = w'))
    (HI : Hid (∀ W : World, Calls Try.prog 43 #[.string i] W fun e w' => e = .returned (.bool false) ∧ W = w')) (HV : Hid (∀ W : World, Calls Try.prog 44 #[.string v] W fun e w' => e = .returned (.bool zv) ∧ W = w')) :
    Calls Try.prog 22 #[.agg #[.int .i64 0, .string i, .string v, .float .f64 x]] w fun e w' => e = .returned (.int .i64 1) ∧ Below w.heap.size w w' := by
  have hb := (Below.refl w.heap.size w).alloc (Nat.le_refl _) (.cells #[.int .i64 0, .string i, .string v, .float .f64 x] 44)
  have HB := Lib.hid hb
  clear hb
  go_enter Try.func22, Try.ntmps22
  go_wp2_with fail
  refine (HI.out _).mono ?_; rintro e w1 ⟨rfl, rfl⟩
  go_wp2_with fail
  go_ret
  exact ⟨rfl, HB.out⟩
set_option maxRecDepth 100000 in
set_option maxHeartbeats 2000000 in
theorem rvalid_0_v (w : World) (i v : ByteArray) (x te : Nat) (tv : Nat)  (HT : Hid (∀ W : World, Calls Try.prog 36 #[.float .f64 x] W fun e w' => e = .returned (.tuple #[.int .u64 (tv : Nat), .int .i64 (te : Nat)]) ∧ W = w'))
    (HI : Hid (∀ W : World, Calls Try.prog 43 #[.string i] W fun e w' => e = .returned (.bool true) ∧ W = w')) (HV : Hid (∀ W : World, Calls Try.prog 44 #[.string v] W fun e w' => e = .returned (.bool false) ∧ W = w')) :
    Calls Try.prog 22 #[.agg #[.int .i64 0, .string i, .string v, .float .f64 x]] w fun e w' => e = .returned (.int .i64 1) ∧ Below w.heap.size w w' := by
  have hb := (Below.refl w.heap.size w).alloc (Nat.le_refl _) (.cells #[.int .i64 0, .string i, .string v, .float .f64 x] 44)
  have HB := Lib.hid hb
  clear hb
  go_enter Try.func22, Try.ntmps22
  go_wp2_with fail
  refine (HI.out _).mono ?_; rintro e w1 ⟨rfl, rfl⟩
  go_wp2_with fail
  refine (HV.out _).mono ?_; rintro e w1 ⟨rfl, rfl⟩
  go_wp2_with fail
  go_ret
  exact ⟨rfl, HB.out⟩
set_option maxRecDepth 100000 in
set_option maxHeartbeats 2000000 in
theorem rvalid_0_ok (w : World) (i v : ByteArray) (x te : Nat) (tv : Nat)  (HT : Hid (∀ W : World, Calls Try.prog 36 #[.float .f64 x] W fun e w' => e = .returned (.tuple #[.int .u64 (tv : Nat), .int .i64 (te : Nat)]) ∧ W = w'))
    (HI : Hid (∀ W : World, Calls Try.prog 43 #[.string i] W fun e w' => e = .returned (.bool true) ∧ W = w')) (HV : Hid (∀ W : World, Calls Try.prog 44 #[.string v] W fun e w' => e = .returned (.bool true) ∧ W = w')) :
    Calls Try.prog 22 #[.agg #[.int .i64 0, .string i, .string v, .float .f64 x]] w fun e w' => e = .returned (.int .i64 (te : Nat)) ∧ Below w.heap.size w w' := by
  have hb := (Below.refl w.heap.size w).alloc (Nat.le_refl _) (.cells #[.int .i64 0, .string i, .string v, .float .f64 x] 44)
  have HB := Lib.hid hb
  clear hb
  go_enter Try.func22, Try.ntmps22
  go_wp2_with fail
  refine (HI.out _).mono ?_; rintro e w1 ⟨rfl, rfl⟩
  go_wp2_with fail
  refine (HV.out _).mono ?_; rintro e w1 ⟨rfl, rfl⟩
  go_wp2_with fail
  refine (HT.out _).mono ?_; rintro e w1 ⟨rfl, rfl⟩
  go_wp2_with fail
  go_ret
  exact ⟨rfl, HB.out⟩
set_option maxRecDepth 100000 in
set_option maxHeartbeats 2000000 in
theorem rvalid_1_i (w : World) (i v : ByteArray) (x te : Nat) (tv : Nat) (zi zv : Bool)  (HT : Hid (∀ W : World, Calls Try.prog 36 #[.float .f64 x] W fun e w' => e = .returned (.tuple #[.int .u64 (tv : Nat), .int .i64 (te : Nat)]) ∧ W = w'))
    (HI : Hid (∀ W : World, Calls Try.prog 43 #[.string i] W fun e w' => e = .returned (.bool false) ∧ W = w')) (HV : Hid (∀ W : World, Calls Try.prog 44 #[.string v] W fun e w' => e = .returned (.bool zv) ∧ W = w')) :
    Calls Try.prog 22 #[.agg #[.int .i64 1, .string i, .string v, .float .f64 x]] w fun e w' => e = .returned (.int .i64 1) ∧ Below w.heap.size w w' := by
  have hb := (Below.refl w.heap.size w).alloc (Nat.le_refl _) (.cells #[.int .i64 1, .string i, .string v, .float .f64 x] 44)
  have HB := Lib.hid hb
  clear hb
  go_enter Try.func22, Try.ntmps22
  go_wp2_with fail
  refine (HI.out _).mono ?_; rintro e w1 ⟨rfl, rfl⟩
  go_wp2_with fail
  go_ret
  exact ⟨rfl, HB.out⟩
set_option maxRecDepth 100000 in
set_option maxHeartbeats 2000000 in
theorem rvalid_1_ok (w : World) (i v : ByteArray) (x te : Nat) (tv : Nat) (zi zv : Bool)  (HT : Hid (∀ W : World, Calls Try.prog 36 #[.float .f64 x] W fun e w' => e = .returned (.tuple #[.int .u64 (tv : Nat), .int .i64 (te : Nat)]) ∧ W = w'))
    (HI : Hid (∀ W : World, Calls Try.prog 43 #[.string i] W fun e w' => e = .returned (.bool true) ∧ W = w')) (HV : Hid (∀ W : World, Calls Try.prog 44 #[.string v] W fun e w' => e = .returned (.bool zv) ∧ W = w')) :
    Calls Try.prog 22 #[.agg #[.int .i64 1, .string i, .string v, .float .f64 x]] w fun e w' => e = .returned (.int .i64 0) ∧ Below w.heap.size w w' := by
  have hb := (Below.refl w.heap.size w).alloc (Nat.le_refl _) (.cells #[.int .i64 1, .string i, .string v, .float .f64 x] 44)
  have HB := Lib.hid hb
  clear hb
  go_enter Try.func22, Try.ntmps22
  go_wp2_with fail
  refine (HI.out _).mono ?_; rintro e w1 ⟨rfl, rfl⟩
  go_wp2_with fail
  refine (HT.out _).mono ?_; rintro e w1 ⟨rfl, rfl⟩
  go_wp2_with fail
  go_ret
  exact ⟨rfl, HB.out⟩
set_option maxRecDepth 100000 in
set_option maxHeartbeats 2000000 in
theorem rvalid_2_i (w : World) (i v : ByteArray) (x te : Nat) (tv : Nat) (zi zv : Bool)  (HT : Hid (∀ W : World, Calls Try.prog 36 #[.float .f64 x] W fun e w' => e = .returned (.tuple #[.int .u64 (tv : Nat), .int .i64 (te : Nat)]) ∧ W = w'))
    (HI : Hid (∀ W : World, Calls Try.prog 43 #[.string i] W fun e w' => e = .returned (.bool false) ∧ W = w')) (HV : Hid (∀ W : World, Calls Try.prog 44 #[.string v] W fun e w' => e = .returned (.bool zv) ∧ W = w')) :
    Calls Try.prog 22 #[.agg #[.int .i64 2, .string i, .string v, .float .f64 x]] w fun e w' => e = .returned (.int .i64 1) ∧ Below w.heap.size w w' := by
  have hb := (Below.refl w.heap.size w).alloc (Nat.le_refl _) (.cells #[.int .i64 2, .string i, .string v, .float .f64 x] 44)
  have HB := Lib.hid hb
  clear hb
  go_enter Try.func22, Try.ntmps22
  go_wp2_with fail
  refine (HI.out _).mono ?_; rintro e w1 ⟨rfl, rfl⟩
  go_wp2_with fail
  go_ret
  exact ⟨rfl, HB.out⟩
set_option maxRecDepth 100000 in
set_option maxHeartbeats 2000000 in
theorem rvalid_2_ok (w : World) (i v : ByteArray) (x te : Nat) (tv : Nat) (zi zv : Bool)  (HT : Hid (∀ W : World, Calls Try.prog 36 #[.float .f64 x] W fun e w' => e = .returned (.tuple #[.int .u64 (tv : Nat), .int .i64 (te : Nat)]) ∧ W = w'))
    (HI : Hid (∀ W : World, Calls Try.prog 43 #[.string i] W fun e w' => e = .returned (.bool true) ∧ W = w')) (HV : Hid (∀ W : World, Calls Try.prog 44 #[.string v] W fun e w' => e = .returned (.bool zv) ∧ W = w')) :
    Calls Try.prog 22 #[.agg #[.int .i64 2, .string i, .string v, .float .f64 x]] w fun e w' => e = .returned (.int .i64 (te : Nat)) ∧ Below w.heap.size w w' := by
  have hb := (Below.refl w.heap.size w).alloc (Nat.le_refl _) (.cells #[.int .i64 2, .string i, .string v, .float .f64 x] 44)
  have HB := Lib.hid hb
  clear hb
  go_enter Try.func22, Try.ntmps22
  go_wp2_with fail
  refine (HI.out _).mono ?_; rintro e w1 ⟨rfl, rfl⟩
  go_wp2_with fail
  refine (HT.out _).mono ?_; rintro e w1 ⟨rfl, rfl⟩
  go_wp2_with fail
  go_ret
  exact ⟨rfl, HB.out⟩
set_option maxRecDepth 100000 in
set_option maxHeartbeats 2000000 in
theorem rvalid_3_i (w : World) (i v : ByteArray) (x te : Nat) (tv : Nat) (zi zv : Bool)  (HT : Hid (∀ W : World, Calls Try.prog 36 #[.float .f64 x] W fun e w' => e = .returned (.tuple #[.int .u64 (tv : Nat), .int .i64 (te : Nat)]) ∧ W = w'))
    (HI : Hid (∀ W : World, Calls Try.prog 43 #[.string i] W fun e w' => e = .returned (.bool false) ∧ W = w')) (HV : Hid (∀ W : World, Calls Try.prog 44 #[.string v] W fun e w' => e = .returned (.bool zv) ∧ W = w')) :
    Calls Try.prog 22 #[.agg #[.int .i64 3, .string i, .string v, .float .f64 x]] w fun e w' => e = .returned (.int .i64 1) ∧ Below w.heap.size w w' := by
  have hb := (Below.refl w.heap.size w).alloc (Nat.le_refl _) (.cells #[.int .i64 3, .string i, .string v, .float .f64 x] 44)
  have HB := Lib.hid hb
  clear hb
  go_enter Try.func22, Try.ntmps22
  go_wp2_with fail
  refine (HI.out _).mono ?_; rintro e w1 ⟨rfl, rfl⟩
  go_wp2_with fail
  go_ret
  exact ⟨rfl, HB.out⟩
set_option maxRecDepth 100000 in
set_option maxHeartbeats 2000000 in
theorem rvalid_3_v (w : World) (i v : ByteArray) (x te : Nat) (tv : Nat)  (HT : Hid (∀ W : World, Calls Try.prog 36 #[.float .f64 x] W fun e w' => e = .returned (.tuple #[.int .u64 (tv : Nat), .int .i64 (te : Nat)]) ∧ W = w'))
    (HI : Hid (∀ W : World, Calls Try.prog 43 #[.string i] W fun e w' => e = .returned (.bool true) ∧ W = w')) (HV : Hid (∀ W : World, Calls Try.prog 44 #[.string v] W fun e w' => e = .returned (.bool false) ∧ W = w')) :
    Calls Try.prog 22 #[.agg #[.int .i64 3, .string i, .string v, .float .f64 x]] w fun e w' => e = .returned (.int .i64 1) ∧ Below w.heap.size w w' := by
  have hb := (Below.refl w.heap.size w).alloc (Nat.le_refl _) (.cells #[.int .i64 3, .string i, .string v, .float .f64 x] 44)
  have HB := Lib.hid hb
  clear hb
  go_enter Try.func22, Try.ntmps22
  go_wp2_with fail
  refine (HI.out _).mono ?_; rintro e w1 ⟨rfl, rfl⟩
  go_wp2_with fail
  refine (HV.out _).mono ?_; rintro e w1 ⟨rfl, rfl⟩
  go_wp2_with fail
  go_ret
  exact ⟨rfl, HB.out⟩
set_option maxRecDepth 100000 in
set_option maxHeartbeats 2000000 in
theorem rvalid_3_ok (w : World) (i v : ByteArray) (x te : Nat) (tv : Nat)  (HT : Hid (∀ W : World, Calls Try.prog 36 #[.float .f64 x] W fun e w' => e = .returned (.tuple #[.int .u64 (tv : Nat), .int .i64 (te : Nat)]) ∧ W = w'))
    (HI : Hid (∀ W : World, Calls Try.prog 43 #[.string i] W fun e w' => e = .returned (.bool true) ∧ W = w')) (HV : Hid (∀ W : World, Calls Try.prog 44 #[.string v] W fun e w' => e = .returned (.bool true) ∧ W = w')) :
    Calls Try.prog 22 #[.agg #[.int .i64 3, .string i, .string v, .float .f64 x]] w fun e w' => e = .returned (.int .i64 0) ∧ Below w.heap.size w w' := by
  have hb := (Below.refl w.heap.size w).alloc (Nat.le_refl _) (.cells #[.int .i64 3, .string i, .string v, .float .f64 x] 44)
  have HB := Lib.hid hb
  clear hb
  go_enter Try.func22, Try.ntmps22
  go_wp2_with fail
  refine (HI.out _).mono ?_; rintro e w1 ⟨rfl, rfl⟩
  go_wp2_with fail
  refine (HV.out _).mono ?_; rintro e w1 ⟨rfl, rfl⟩
  go_wp2_with fail
  refine (HT.out _).mono ?_; rintro e w1 ⟨rfl, rfl⟩
  go_wp2_with fail
  go_ret
  exact ⟨rfl, HB.out⟩
set_option maxRecDepth 100000 in
set_option maxHeartbeats 2000000 in
theorem rvalid_4_i (w : World) (i v : ByteArray) (x te : Nat) (tv : Nat) (zi zv : Bool)  (HT : Hid (∀ W : World, Calls Try.prog 36 #[.float .f64 x] W fun e w' => e = .returned (.tuple #[.int .u64 (tv : Nat), .int .i64 (te : Nat)]) ∧ W = w'))
    (HI : Hid (∀ W : World, Calls Try.prog 43 #[.string i] W fun e w' => e = .returned (.bool false) ∧ W = w')) (HV : Hid (∀ W : World, Calls Try.prog 44 #[.string v] W fun e w' => e = .returned (.bool zv) ∧ W = w')) :
    Calls Try.prog 22 #[.agg #[.int .i64 4, .string i, .string v, .float .f64 x]] w fun e w' => e = .returned (.int .i64 1) ∧ Below w.heap.size w w' := by
  have hb := (Below.refl w.heap.size w).alloc (Nat.le_refl _) (.cells #[.int .i64 4, .string i, .string v, .float .f64 x] 44)
  have HB := Lib.hid hb
  clear hb
  go_enter Try.func22, Try.ntmps22
  go_wp2_with fail
  refine (HI.out _).mono ?_; rintro e w1 ⟨rfl, rfl⟩
  go_wp2_with fail
  go_ret
  exact ⟨rfl, HB.out⟩
set_option maxRecDepth 100000 in
set_option maxHeartbeats 2000000 in
theorem rvalid_4_ok (w : World) (i v : ByteArray) (x te : Nat) (tv : Nat) (zi zv : Bool)  (HT : Hid (∀ W : World, Calls Try.prog 36 #[.float .f64 x] W fun e w' => e = .returned (.tuple #[.int .u64 (tv : Nat), .int .i64 (te : Nat)]) ∧ W = w'))
    (HI : Hid (∀ W : World, Calls Try.prog 43 #[.string i] W fun e w' => e = .returned (.bool true) ∧ W = w')) (HV : Hid (∀ W : World, Calls Try.prog 44 #[.string v] W fun e w' => e = .returned (.bool zv) ∧ W = w')) :
    Calls Try.prog 22 #[.agg #[.int .i64 4, .string i, .string v, .float .f64 x]] w fun e w' => e = .returned (.int .i64 0) ∧ Below w.heap.size w w' := by
  have hb := (Below.refl w.heap.size w).alloc (Nat.le_refl _) (.cells #[.int .i64 4, .string i, .string v, .float .f64 x] 44)
  have HB := Lib.hid hb
  clear hb
  go_enter Try.func22, Try.ntmps22
  go_wp2_with fail
  refine (HI.out _).mono ?_; rintro e w1 ⟨rfl, rfl⟩
  go_wp2_with fail
  refine (HT.out _).mono ?_; rintro e w1 ⟨rfl, rfl⟩
  go_wp2_with fail
  go_ret
  exact ⟨rfl, HB.out⟩
theorem rValid_val (r : Rq) (w : World) (hr : r.Kind) : Calls Try.prog 22 #[.agg r.row] w fun e w' => e = .returned (.int .i64 (validE r)) ∧ Below w.heap.size w w' := by
  have HT := Lib.hid (fun W => rTicks_val r.ttl W hr.ttl)
  have HI := Lib.hid (fun W => rID_val r.id W (idB r.id) hr.id (Lib.hid rfl))
  have HV := Lib.hid (fun W => rValue_val r.va W (valB r.va) (Lib.hid rfl))
  obtain ⟨k, i, v, x⟩ := r
  simp only [Rq.row] at HT HI HV ⊢
  unfold validE
  simp only
  by_cases h0 : k < 0
  · rw [if_pos (Or.inl h0)]; exact rvalid_neg w k i v x _ _ _ _ h0 HT HI HV
  by_cases h5 : 5 ≤ k
  · rw [if_pos (Or.inr (Or.inl h5))]; exact rvalid_big w k i v x _ _ _ _ (eq_false h0) (by omega) HT HI HV
  cases hi : idB i with
  | false =>
    rw [hi] at HI
    rw [if_pos (Or.inr (Or.inr rfl))]
    have hk : k = 0 ∨ k = 1 ∨ k = 2 ∨ k = 3 ∨ k = 4 := by omega
    rcases hk with rfl | rfl | rfl | rfl | rfl
    · exact rvalid_0_i w i v x _ _ true _ HT HI HV
    · exact rvalid_1_i w i v x _ _ true _ HT HI HV
    · exact rvalid_2_i w i v x _ _ true _ HT HI HV
    · exact rvalid_3_i w i v x _ _ true _ HT HI HV
    · exact rvalid_4_i w i v x _ _ true _ HT HI HV
  | true =>
    rw [hi] at HI
    rw [if_neg (by simp; omega)]
    have hk : k = 0 ∨ k = 1 ∨ k = 2 ∨ k = 3 ∨ k = 4 := by omega
    cases hv : valB v with
    | false =>
      rw [hv] at HV
      rcases hk with rfl | rfl | rfl | rfl | rfl
      · rw [if_pos ⟨Or.inl rfl, rfl⟩]; exact rvalid_0_v w i v x _ _ HT HI HV
      · rw [if_neg (by decide), if_neg (by decide)]; exact rvalid_1_ok w i v x _ _ true _ HT HI HV
      · rw [if_neg (by decide), if_pos (by decide)]; exact rvalid_2_ok w i v x _ _ true _ HT HI HV
      · rw [if_pos ⟨Or.inr rfl, rfl⟩]; exact rvalid_3_v w i v x _ _ HT HI HV
      · rw [if_neg (by decide), if_neg (by decide)]; exact rvalid_4_ok w i v x _ _ true _ HT HI HV
    | true =>
      rw [hv] at HV
      rcases hk with rfl | rfl | rfl | rfl | rfl
      · rw [if_neg (by decide), if_pos (by decide)]; exact rvalid_0_ok w i v x _ _ HT HI HV
      · rw [if_neg (by decide), if_neg (by decide)]; exact rvalid_1_ok w i v x _ _ true _ HT HI HV
      · rw [if_neg (by decide), if_pos (by decide)]; exact rvalid_2_ok w i v x _ _ true _ HT HI HV
      · rw [if_neg (by decide), if_neg (by decide)]; exact rvalid_3_ok w i v x _ _ HT HI HV
      · rw [if_neg (by decide), if_neg (by decide)]; exact rvalid_4_ok w i v x _ _ true _ HT HI HV

set_option maxRecDepth 100000 in
theorem rchg_zero (w : World) (k : Int) (i v : ByteArray) (x : Nat) (h0 : k = 0) : Calls Try.prog 24 #[.agg #[.int .i64 k, .string i, .string v, .float .f64 x]] w fun e w' => e = .returned (.bool true) ∧ Below w.heap.size w w' := by
  subst h0
  have hb := (Below.refl w.heap.size w).alloc (Nat.le_refl _) (.cells #[.int .i64 0, .string i, .string v, .float .f64 x] 44)
  have HB := Lib.hid hb
  clear hb
  go_enter Try.func24, Try.ntmps24
  go_wp2_with fail
  go_ret
  exact ⟨rfl, HB.out⟩
set_option maxRecDepth 100000 in
theorem rchg_low (w : World) (k : Int) (i v : ByteArray) (x : Nat) (h0 : (k == 0) = false) (h1 : decide (k ≥ 2) = false) : Calls Try.prog 24 #[.agg #[.int .i64 k, .string i, .string v, .float .f64 x]] w fun e w' => e = .returned (.bool false) ∧ Below w.heap.size w w' := by
  have hb := (Below.refl w.heap.size w).alloc (Nat.le_refl _) (.cells #[.int .i64 k, .string i, .string v, .float .f64 x] 44)
  have HB := Lib.hid hb
  clear hb
  go_enter Try.func24, Try.ntmps24
  go_wp2_with fail
  go_ret
  exact ⟨rfl, HB.out⟩
set_option maxRecDepth 100000 in
theorem rchg_big (w : World) (k : Int) (i v : ByteArray) (x : Nat) (h0 : (k == 0) = false) (h1 : decide (k ≥ 2) = true) (h2 : decide (k ≤ 4) = false) : Calls Try.prog 24 #[.agg #[.int .i64 k, .string i, .string v, .float .f64 x]] w fun e w' => e = .returned (.bool false) ∧ Below w.heap.size w w' := by
  have hb := (Below.refl w.heap.size w).alloc (Nat.le_refl _) (.cells #[.int .i64 k, .string i, .string v, .float .f64 x] 44)
  have HB := Lib.hid hb
  clear hb
  go_enter Try.func24, Try.ntmps24
  go_wp2_with fail
  go_ret
  exact ⟨rfl, HB.out⟩
set_option maxRecDepth 100000 in
theorem rchg_yes (w : World) (k : Int) (i v : ByteArray) (x : Nat) (h0 : (k == 0) = false) (h1 : decide (k ≥ 2) = true) (h2 : decide (k ≤ 4) = true) : Calls Try.prog 24 #[.agg #[.int .i64 k, .string i, .string v, .float .f64 x]] w fun e w' => e = .returned (.bool true) ∧ Below w.heap.size w w' := by
  have hb := (Below.refl w.heap.size w).alloc (Nat.le_refl _) (.cells #[.int .i64 k, .string i, .string v, .float .f64 x] 44)
  have HB := Lib.hid hb
  clear hb
  go_enter Try.func24, Try.ntmps24
  go_wp2_with fail
  go_ret
  exact ⟨rfl, HB.out⟩
theorem rChanges_val (r : Rq) (w : World) : Calls Try.prog 24 #[.agg r.row] w fun e w' => e = .returned (.bool (chg r.kind)) ∧ Below w.heap.size w w' := by
  obtain ⟨k, i, v, x⟩ := r
  unfold chg
  by_cases h0 : k = 0
  · subst h0
    exact rchg_zero w 0 i v x rfl
  · have e0 : (k == 0) = false := beq_eq_false_iff_ne.2 h0
    by_cases h1 : k ≥ 2
    · by_cases h2 : k ≤ 4
      · rw [decide_eq_true (show 0 ≤ k ∧ k < 5 ∧ k ≠ 1 by omega)]; exact rchg_yes w k i v x e0 (decide_eq_true h1) (decide_eq_true h2)
      · rw [decide_eq_false (show ¬ (0 ≤ k ∧ k < 5 ∧ k ≠ 1) by omega)]; exact rchg_big w k i v x e0 (decide_eq_true h1) (decide_eq_false h2)
    · rw [decide_eq_false (show ¬ (0 ≤ k ∧ k < 5 ∧ k ≠ 1) by omega)]; exact rchg_low w k i v x e0 (decide_eq_false h1)
set_option maxRecDepth 100000 in
set_option maxHeartbeats 2000000 in
theorem Rep_val (y : Rp) (w : World) : Calls Try.prog 13 #[.agg y.row] w fun e w' => e = .returned (.agg y.row) ∧ Below w.heap.size w w' := by
  obtain ⟨ye, yv, yd⟩ := y
  simp only [Rp.row, Rq.row]
  have hb := ((Below.refl w.heap.size w).alloc (Nat.le_refl _) (.cells #[.int .i64 ye, .string yv, .int .u64 (yd : Int)] 41)).alloc (by rw [alloc_sizeR]; omega) (.cells #[.int .i64 ye, .string yv, .int .u64 (yd : Int)] 39)
  have HB := Lib.hid hb
  have N2 := Lib.hid (two_newP w (.cells #[.int .i64 ye, .string yv, .int .u64 (yd : Int)] 41) (.cells #[.int .i64 ye, .string yv, .int .u64 (yd : Int)] 39)).2
  clear hb
  go_enter Try.func13, Try.ntmps13
  go_wp2_with fail
  refine bodyPost_ret (v := .agg #[.int .i64 ye, .string yv, .int .u64 (yd : Int)]) ?_ rfl ⟨rfl, HB.out⟩
  exact results_cell_row (p := 2) (ty := 39) rfl _ _ (w.heap.size + 1) 39 _ (0, 0) _ rfl N2.out Try.underlying39 rfl (by kernel_rfl)
set_option maxRecDepth 100000 in
set_option maxHeartbeats 2000000 in
theorem Req_val (r : Rq) (w : World) : Calls Try.prog 16 #[.agg r.row] w fun e w' => e = .returned (.agg r.row) ∧ Below w.heap.size w w' := by
  obtain ⟨k, i, v, x⟩ := r
  simp only [Rq.row]
  have hb := ((Below.refl w.heap.size w).alloc (Nat.le_refl _) (.cells #[.int .i64 k, .string i, .string v, .float .f64 x] 32)).alloc (by rw [alloc_sizeR]; omega) (.cells #[.int .i64 0, .string ⟨#[]⟩, .string ⟨#[]⟩, .float .f64 0] 44)
  have n2 := (two_newP w (.cells #[.int .i64 k, .string i, .string v, .float .f64 x] 32) (.cells #[.int .i64 0, .string ⟨#[]⟩, .string ⟨#[]⟩, .float .f64 0] 44)).2
  have ONE : Hid ((#[.int .i64 k, .string i, .string v, .float .f64 x] : Array Value).all (·.oneCell') = true) := Lib.hid (by simp [Value.oneCell'])
  have hrow := setRow_heap ((w.alloc (.cells #[.int .i64 k, .string i, .string v, .float .f64 x] 32)).alloc (.cells #[.int .i64 0, .string ⟨#[]⟩, .string ⟨#[]⟩, .float .f64 0] 44)) (w.heap.size + 1) _ #[.int .i64 k, .string i, .string v, .float .f64 x] _ _ n2
  have HROW := Lib.hid hrow
  have hbs : Below w.heap.size w (((w.alloc (.cells #[.int .i64 k, .string i, .string v, .float .f64 x] 32)).alloc (.cells #[.int .i64 0, .string ⟨#[]⟩, .string ⟨#[]⟩, .float .f64 0] 44)).setRow (w.heap.size + 1) #[.int .i64 k, .string i, .string v, .float .f64 x]) := ⟨hb.os, hb.tape, hb.output, by rw [setRow_size]; exact hb.size, fun k hk => (setRow_other _ _ _ _ (by omega)).trans (hb.block k hk)⟩
  have HBS := Lib.hid hbs
  have N2 := Lib.hid n2
  clear hrow hbs hb n2
  go_enter Try.func16, Try.ntmps16
  go_wp2_with (refine wpList_store_row rfl 44 _ _ rfl (w.heap.size + 1) #[.int .i64 k, .string i, .string v, .float .f64 x] rfl rfl _ _ N2.out (by kernel_rfl) rfl ONE.out ?_)
  refine bodyPost_ret (v := .agg #[.int .i64 k, .string i, .string v, .float .f64 x]) ?_ rfl ⟨rfl, HBS.out⟩
  exact results_cell_row (p := 2) (ty := 44) rfl _ _ (w.heap.size + 1) 44 _ (0, 0) _ rfl HROW.out Try.underlying44 rfl (by kernel_rfl)
end Go.Proofs.Ytmbidannodelfaa.G
