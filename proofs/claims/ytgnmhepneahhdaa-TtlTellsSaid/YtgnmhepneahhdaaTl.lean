/- The kind of any number, the lesser of any two. -/
import Derived.Test.YtgnmhepneahhdaaTk
namespace Go.Proofs.Ytgnmhepneahhdaa.G
open Go.RowKit
set_option linter.unusedVariables false
set_option linter.unusedSimpArgs false

def nanB (a : Nat) : Bool := (FloatKind.f64.format.read a).isNaN
theorem ord_none (x y : Ieee.Datum) : x.order y = none ↔ x.isNaN = true ∨ y.isNaN = true := by
  cases x <;> cases y <;> simp [Ieee.Datum.order, Ieee.Datum.isNaN]
theorem ord_swap (x y : Ieee.Datum) : y.order x = (x.order y).map Ordering.swap := by
  cases x with
  | nan s n => cases y <;> simp [Ieee.Datum.order]
  | infinity s =>
    cases y with
    | nan t n => simp [Ieee.Datum.order]
    | infinity t => cases s <;> cases t <;> rfl
    | number t n j => cases s <;> simp [Ieee.Datum.order]
  | number s m i =>
    cases y with
    | nan t n => simp [Ieee.Datum.order]
    | infinity t => cases t <;> simp [Ieee.Datum.order]
    | number t n j =>
      simp only [Ieee.Datum.order, Option.map_some, Option.some.injEq]
      rw [Int.min_comm j i]
      exact Std.OrientedCmp.eq_swap
theorem ord_self (x : Ieee.Datum) (h : x.isNaN = false) : x.order x = some .eq := by
  cases x with
  | nan s n => simp [Ieee.Datum.isNaN] at h
  | infinity s => cases s <;> rfl
  | number s m i =>
    simp only [Ieee.Datum.order, Option.some.injEq]
    exact Std.ReflCmp.compare_self
theorem fo_nan (a b : Nat) (h : nanB a = true ∨ nanB b = true) : FloatKind.f64.format.order a b = none := (ord_none _ _).2 h
theorem fo_self (a : Nat) (h : nanB a = false) : FloatKind.f64.format.order a a = some .eq := ord_self _ h
theorem fo_some (a b : Nat) (ha : nanB a = false) (hb : nanB b = false) : ∃ o, FloatKind.f64.format.order a b = some o ∧ FloatKind.f64.format.order b a = some o.swap := by
  have hs := ord_swap (FloatKind.f64.format.read a) (FloatKind.f64.format.read b)
  cases ho : FloatKind.f64.format.order a b with
  | none =>
    rcases (ord_none _ _).1 ho with h | h
    · unfold nanB at ha; rw [ha] at h; cases h
    · unfold nanB at hb; rw [hb] at h; cases h
  | some o =>
    refine ⟨o, rfl, ?_⟩
    refine hs.trans ?_
    have : (FloatKind.f64.format.read a).order (FloatKind.f64.format.read b) = some o := ho
    rw [this]; rfl
theorem beq_tf (x : Bool) : x = true ∨ x = false := by cases x <;> simp

set_option maxRecDepth 100000 in
theorem Kind_nanany (a : Nat) (w : World) (h : nanB a = true) : Calls Try.prog 14 #[.float .f64 a] w fun e w' => e = .returned (.int .i64 0) ∧ w = w' := by
  have o1 := fo_nan a a (Or.inl h)
  clear h
  go_enter Try.func14, Try.ntmps14
  go_wp2
  go_ret
  exact ⟨rfl, rfl⟩

set_option maxRecDepth 100000 in
set_option maxHeartbeats 1000000 in
theorem Kind_some (a : Nat) (h : nanB a = false) : ∃ k : Int, (k == 0) = false ∧ ∀ w, Calls Try.prog 14 #[.float .f64 a] w fun e w' => e = .returned (.int .i64 k) ∧ w = w' := by
  have o1 := fo_self a h
  clear h
  obtain ⟨na, ng⟩ : ∃ na, ∀ W : World, (Op.unary .neg (.float .f64 a)).run Try.prog W = .ok (.float .f64 na) W := ⟨_, fun _ => rfl⟩
  have fb : ∀ W : World, (callFunc 24 #[.float .f64 a]).run Try.prog W = .ok (.value (.int .u64 (a : Int))) W := fun _ => by kernel_rfl
  rcases beq_tf (FloatKind.f64.format.order na 9218868437227405311 == some .gt) with q1 | q1
  · exact ⟨1, rfl, fun w => by
      go_enter Try.func14, Try.ntmps14
      go_wp2
      go_ret
      exact ⟨rfl, rfl⟩⟩
  · rcases beq_tf (FloatKind.f64.format.order a 0 == some .lt) with q2 | q2
    · exact ⟨2, rfl, fun w => by
        go_enter Try.func14, Try.ntmps14
        go_wp2
        go_ret
        exact ⟨rfl, rfl⟩⟩
    · rcases beq_tf (FloatKind.f64.format.order a 9218868437227405311 == some .gt) with q3 | q3
      · exact ⟨6, rfl, fun w => by
          go_enter Try.func14, Try.ntmps14
          go_wp2
          go_ret
          exact ⟨rfl, rfl⟩⟩
      · rcases beq_tf (FloatKind.f64.format.order a 0 == some .gt) with q4 | q4
        · exact ⟨5, rfl, fun w => by
            go_enter Try.func14, Try.ntmps14
            go_wp2
            go_ret
            exact ⟨rfl, rfl⟩⟩
        · by_cases q5 : wrap64 (a : Int) < 0
          · exact ⟨3, rfl, fun w => by
              go_enter Try.func14, Try.ntmps14
              go_wp2
              go_ret
              exact ⟨rfl, rfl⟩⟩
          · exact ⟨4, rfl, fun w => by
              go_enter Try.func14, Try.ntmps14
              go_wp2
              go_ret
              exact ⟨rfl, rfl⟩⟩

set_option maxRecDepth 100000 in
theorem Least_n (a b : Nat) (k : Int) (w : World) (h0 : (k == 0) = true) (hk : Hid (∀ w, Calls Try.prog 14 #[.float .f64 a] w fun e w' => e = .returned (.int .i64 k) ∧ w = w')) :
    Calls Try.prog 17 #[.float .f64 a, .float .f64 b] w fun e w' => e = .returned (.float .f64 b) ∧ w = w' := by
  go_enter Try.func17, Try.ntmps17
  go_wp2_with fail
  refine (hk.out _).mono ?_; rintro e w1 ⟨rfl, rfl⟩
  go_wp2_with fail
  go_ret
  exact ⟨rfl, rfl⟩

set_option maxRecDepth 100000 in
theorem Least_b (a b : Nat) (k : Int) (w : World) (h0 : (k == 0) = false) (o : (FloatKind.f64.format.order b a == some .lt) = true) (hk : Hid (∀ w, Calls Try.prog 14 #[.float .f64 a] w fun e w' => e = .returned (.int .i64 k) ∧ w = w')) :
    Calls Try.prog 17 #[.float .f64 a, .float .f64 b] w fun e w' => e = .returned (.float .f64 b) ∧ w = w' := by
  go_enter Try.func17, Try.ntmps17
  go_wp2_with fail
  refine (hk.out _).mono ?_; rintro e w1 ⟨rfl, rfl⟩
  go_wp2_with fail
  go_ret
  exact ⟨rfl, rfl⟩

set_option maxRecDepth 100000 in
theorem Least_a (a b : Nat) (k : Int) (w : World) (h0 : (k == 0) = false) (o : (FloatKind.f64.format.order b a == some .lt) = false) (hk : Hid (∀ w, Calls Try.prog 14 #[.float .f64 a] w fun e w' => e = .returned (.int .i64 k) ∧ w = w')) :
    Calls Try.prog 17 #[.float .f64 a, .float .f64 b] w fun e w' => e = .returned (.float .f64 a) ∧ w = w' := by
  go_enter Try.func17, Try.ntmps17
  go_wp2_with fail
  refine (hk.out _).mono ?_; rintro e w1 ⟨rfl, rfl⟩
  go_wp2_with fail
  go_ret
  exact ⟨rfl, rfl⟩

end Go.Proofs.Ytgnmhepneahhdaa.G
