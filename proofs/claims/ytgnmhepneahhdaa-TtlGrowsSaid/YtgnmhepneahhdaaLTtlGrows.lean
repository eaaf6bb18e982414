/- TtlGrows: whatever the numbers, the law answers true. No condition. -/
import Derived.Test.YtgnmhepneahhdaaTk
import Derived.Test.YtgnmhepneahhdaaFu
import Derived.Test.YtgnmhepneahhdaaFw
namespace Go.Proofs.Ytgnmhepneahhdaa.L
open Go.RowKit Go.Proofs.Ytgnmhepneahhdaa.G
set_option linter.unusedVariables false
set_option linter.unusedSimpArgs false

abbrev TickC (x : Nat) (a : Int) (e : Int) : Prop := Hid (∀ w, Calls Try.prog 10 #[.float .f64 x] w fun r w' => r = .returned (.tuple #[.int .u64 a, .int .i64 e]) ∧ w = w')
abbrev ShareC (x : Nat) (n a e : Int) : Prop := Hid (∀ w, Calls Try.prog 12 #[.float .f64 x, .int .i64 n] w fun r w' => r = .returned (.tuple #[.int .i64 a, .int .i64 e]) ∧ w = w')
theorem two_tf (x : Bool) : x = true ∨ x = false := by cases x <;> simp

set_option maxRecDepth 100000 in
theorem grows_taaok (x y : Nat) (n a b c d r f h : Int) (w : World) (hl : (FloatKind.f64.format.order x y == some .lt || FloatKind.f64.format.order x y == some .eq) = true) (n0 : decide (n ≥ 0) = true) (n1 : decide (n ≤ 100000) = true) (T1 : TickC x a 1) (T2 : TickC y b f) (S1 : ShareC x n c 1) (S2 : ShareC y n d h) (S3 : ShareC 4607182418800017408 n n 0) :
    Calls Try.prog 5 #[.float .f64 x, .float .f64 y, .int .i64 n] w fun e w' => e = .returned (.bool true) ∧ Below w.heap.size w w' := by
  go_enter Try.func5, Try.ntmps5
  go_wp2_with fail
  refine (T1.out _).mono ?_; rintro e w1 ⟨rfl, rfl⟩
  go_wp2_with fail
  refine (T2.out _).mono ?_; rintro e w1 ⟨rfl, rfl⟩
  go_wp2_with fail
  refine (S1.out _).mono ?_; rintro e w1 ⟨rfl, rfl⟩
  go_wp2_with fail
  refine (S2.out _).mono ?_; rintro e w1 ⟨rfl, rfl⟩
  go_wp2_with fail
  refine (S3.out _).mono ?_; rintro e w1 ⟨rfl, rfl⟩
  go_wp2_with fail
  refine (fixed_val _).mono ?_; rintro e w1 ⟨rfl, rfl⟩
  go_wp2_with fail
  go_ret
  exact ⟨rfl, Below.refl _ _⟩

set_option maxRecDepth 100000 in
theorem grows_taalo (x y : Nat) (n a b c d r f h : Int) (w : World) (hl : (FloatKind.f64.format.order x y == some .lt || FloatKind.f64.format.order x y == some .eq) = true) (n0 : decide (n ≥ 0) = false) (T1 : TickC x a 1) (T2 : TickC y b f) (S1 : ShareC x n c 1) (S2 : ShareC y n d h) (S3 : ShareC 4607182418800017408 n r 1) :
    Calls Try.prog 5 #[.float .f64 x, .float .f64 y, .int .i64 n] w fun e w' => e = .returned (.bool true) ∧ Below w.heap.size w w' := by
  go_enter Try.func5, Try.ntmps5
  go_wp2_with fail
  refine (T1.out _).mono ?_; rintro e w1 ⟨rfl, rfl⟩
  go_wp2_with fail
  refine (T2.out _).mono ?_; rintro e w1 ⟨rfl, rfl⟩
  go_wp2_with fail
  refine (S1.out _).mono ?_; rintro e w1 ⟨rfl, rfl⟩
  go_wp2_with fail
  refine (S2.out _).mono ?_; rintro e w1 ⟨rfl, rfl⟩
  go_wp2_with fail
  refine (S3.out _).mono ?_; rintro e w1 ⟨rfl, rfl⟩
  go_wp2_with fail
  refine (fixed_val _).mono ?_; rintro e w1 ⟨rfl, rfl⟩
  go_wp2_with fail
  go_ret
  exact ⟨rfl, Below.refl _ _⟩

set_option maxRecDepth 100000 in
theorem grows_taahi (x y : Nat) (n a b c d r f h : Int) (w : World) (hl : (FloatKind.f64.format.order x y == some .lt || FloatKind.f64.format.order x y == some .eq) = true) (n0 : decide (n ≥ 0) = true) (n1 : decide (n ≤ 100000) = false) (T1 : TickC x a 1) (T2 : TickC y b f) (S1 : ShareC x n c 1) (S2 : ShareC y n d h) (S3 : ShareC 4607182418800017408 n r 1) :
    Calls Try.prog 5 #[.float .f64 x, .float .f64 y, .int .i64 n] w fun e w' => e = .returned (.bool true) ∧ Below w.heap.size w w' := by
  go_enter Try.func5, Try.ntmps5
  go_wp2_with fail
  refine (T1.out _).mono ?_; rintro e w1 ⟨rfl, rfl⟩
  go_wp2_with fail
  refine (T2.out _).mono ?_; rintro e w1 ⟨rfl, rfl⟩
  go_wp2_with fail
  refine (S1.out _).mono ?_; rintro e w1 ⟨rfl, rfl⟩
  go_wp2_with fail
  refine (S2.out _).mono ?_; rintro e w1 ⟨rfl, rfl⟩
  go_wp2_with fail
  refine (S3.out _).mono ?_; rintro e w1 ⟨rfl, rfl⟩
  go_wp2_with fail
  refine (fixed_val _).mono ?_; rintro e w1 ⟨rfl, rfl⟩
  go_wp2_with fail
  go_ret
  exact ⟨rfl, Below.refl _ _⟩

set_option maxRecDepth 100000 in
theorem grows_tabok (x y : Nat) (n a b c d r f h : Int) (w : World) (hl : (FloatKind.f64.format.order x y == some .lt || FloatKind.f64.format.order x y == some .eq) = true) (c0 : decide (c < 0) = false) (cn : decide (c > n) = false) (n0 : decide (n ≥ 0) = true) (n1 : decide (n ≤ 100000) = true) (T1 : TickC x a 1) (T2 : TickC y b f) (S1 : ShareC x n c 0) (S2 : ShareC y n d 1) (S3 : ShareC 4607182418800017408 n n 0) :
    Calls Try.prog 5 #[.float .f64 x, .float .f64 y, .int .i64 n] w fun e w' => e = .returned (.bool true) ∧ Below w.heap.size w w' := by
  go_enter Try.func5, Try.ntmps5
  go_wp2_with fail
  refine (T1.out _).mono ?_; rintro e w1 ⟨rfl, rfl⟩
  go_wp2_with fail
  refine (T2.out _).mono ?_; rintro e w1 ⟨rfl, rfl⟩
  go_wp2_with fail
  refine (S1.out _).mono ?_; rintro e w1 ⟨rfl, rfl⟩
  go_wp2_with fail
  refine (S2.out _).mono ?_; rintro e w1 ⟨rfl, rfl⟩
  go_wp2_with fail
  refine (S3.out _).mono ?_; rintro e w1 ⟨rfl, rfl⟩
  go_wp2_with fail
  refine (fixed_val _).mono ?_; rintro e w1 ⟨rfl, rfl⟩
  go_wp2_with fail
  go_ret
  exact ⟨rfl, Below.refl _ _⟩

set_option maxRecDepth 100000 in
theorem grows_tacok (x y : Nat) (n a b c d r f h : Int) (w : World) (hl : (FloatKind.f64.format.order x y == some .lt || FloatKind.f64.format.order x y == some .eq) = true) (c0 : decide (c < 0) = false) (cn : decide (c > n) = false) (fcd : decide (c > d) = false) (n0 : decide (n ≥ 0) = true) (n1 : decide (n ≤ 100000) = true) (T1 : TickC x a 1) (T2 : TickC y b f) (S1 : ShareC x n c 0) (S2 : ShareC y n d 0) (S3 : ShareC 4607182418800017408 n n 0) :
    Calls Try.prog 5 #[.float .f64 x, .float .f64 y, .int .i64 n] w fun e w' => e = .returned (.bool true) ∧ Below w.heap.size w w' := by
  go_enter Try.func5, Try.ntmps5
  go_wp2_with fail
  refine (T1.out _).mono ?_; rintro e w1 ⟨rfl, rfl⟩
  go_wp2_with fail
  refine (T2.out _).mono ?_; rintro e w1 ⟨rfl, rfl⟩
  go_wp2_with fail
  refine (S1.out _).mono ?_; rintro e w1 ⟨rfl, rfl⟩
  go_wp2_with fail
  refine (S2.out _).mono ?_; rintro e w1 ⟨rfl, rfl⟩
  go_wp2_with fail
  refine (S3.out _).mono ?_; rintro e w1 ⟨rfl, rfl⟩
  go_wp2_with fail
  refine (fixed_val _).mono ?_; rintro e w1 ⟨rfl, rfl⟩
  go_wp2_with fail
  go_ret
  exact ⟨rfl, Below.refl _ _⟩

set_option maxRecDepth 100000 in
theorem grows_tcaok (x y : Nat) (n a b c d r f h : Int) (w : World) (hl : (FloatKind.f64.format.order x y == some .lt || FloatKind.f64.format.order x y == some .eq) = true) (fab : decide (a > b) = false) (n0 : decide (n ≥ 0) = true) (n1 : decide (n ≤ 100000) = true) (T1 : TickC x a 0) (T2 : TickC y b 0) (S1 : ShareC x n c 1) (S2 : ShareC y n d h) (S3 : ShareC 4607182418800017408 n n 0) :
    Calls Try.prog 5 #[.float .f64 x, .float .f64 y, .int .i64 n] w fun e w' => e = .returned (.bool true) ∧ Below w.heap.size w w' := by
  go_enter Try.func5, Try.ntmps5
  go_wp2_with fail
  refine (T1.out _).mono ?_; rintro e w1 ⟨rfl, rfl⟩
  go_wp2_with fail
  refine (T2.out _).mono ?_; rintro e w1 ⟨rfl, rfl⟩
  go_wp2_with fail
  refine (S1.out _).mono ?_; rintro e w1 ⟨rfl, rfl⟩
  go_wp2_with fail
  refine (S2.out _).mono ?_; rintro e w1 ⟨rfl, rfl⟩
  go_wp2_with fail
  refine (S3.out _).mono ?_; rintro e w1 ⟨rfl, rfl⟩
  go_wp2_with fail
  refine (fixed_val _).mono ?_; rintro e w1 ⟨rfl, rfl⟩
  go_wp2_with fail
  go_ret
  exact ⟨rfl, Below.refl _ _⟩

set_option maxRecDepth 100000 in
theorem grows_tcalo (x y : Nat) (n a b c d r f h : Int) (w : World) (hl : (FloatKind.f64.format.order x y == some .lt || FloatKind.f64.format.order x y == some .eq) = true) (fab : decide (a > b) = false) (n0 : decide (n ≥ 0) = false) (T1 : TickC x a 0) (T2 : TickC y b 0) (S1 : ShareC x n c 1) (S2 : ShareC y n d h) (S3 : ShareC 4607182418800017408 n r 1) :
    Calls Try.prog 5 #[.float .f64 x, .float .f64 y, .int .i64 n] w fun e w' => e = .returned (.bool true) ∧ Below w.heap.size w w' := by
  go_enter Try.func5, Try.ntmps5
  go_wp2_with fail
  refine (T1.out _).mono ?_; rintro e w1 ⟨rfl, rfl⟩
  go_wp2_with fail
  refine (T2.out _).mono ?_; rintro e w1 ⟨rfl, rfl⟩
  go_wp2_with fail
  refine (S1.out _).mono ?_; rintro e w1 ⟨rfl, rfl⟩
  go_wp2_with fail
  refine (S2.out _).mono ?_; rintro e w1 ⟨rfl, rfl⟩
  go_wp2_with fail
  refine (S3.out _).mono ?_; rintro e w1 ⟨rfl, rfl⟩
  go_wp2_with fail
  refine (fixed_val _).mono ?_; rintro e w1 ⟨rfl, rfl⟩
  go_wp2_with fail
  go_ret
  exact ⟨rfl, Below.refl _ _⟩

set_option maxRecDepth 100000 in
theorem grows_tcahi (x y : Nat) (n a b c d r f h : Int) (w : World) (hl : (FloatKind.f64.format.order x y == some .lt || FloatKind.f64.format.order x y == some .eq) = true) (fab : decide (a > b) = false) (n0 : decide (n ≥ 0) = true) (n1 : decide (n ≤ 100000) = false) (T1 : TickC x a 0) (T2 : TickC y b 0) (S1 : ShareC x n c 1) (S2 : ShareC y n d h) (S3 : ShareC 4607182418800017408 n r 1) :
    Calls Try.prog 5 #[.float .f64 x, .float .f64 y, .int .i64 n] w fun e w' => e = .returned (.bool true) ∧ Below w.heap.size w w' := by
  go_enter Try.func5, Try.ntmps5
  go_wp2_with fail
  refine (T1.out _).mono ?_; rintro e w1 ⟨rfl, rfl⟩
  go_wp2_with fail
  refine (T2.out _).mono ?_; rintro e w1 ⟨rfl, rfl⟩
  go_wp2_with fail
  refine (S1.out _).mono ?_; rintro e w1 ⟨rfl, rfl⟩
  go_wp2_with fail
  refine (S2.out _).mono ?_; rintro e w1 ⟨rfl, rfl⟩
  go_wp2_with fail
  refine (S3.out _).mono ?_; rintro e w1 ⟨rfl, rfl⟩
  go_wp2_with fail
  refine (fixed_val _).mono ?_; rintro e w1 ⟨rfl, rfl⟩
  go_wp2_with fail
  go_ret
  exact ⟨rfl, Below.refl _ _⟩

set_option maxRecDepth 100000 in
theorem grows_tcbok (x y : Nat) (n a b c d r f h : Int) (w : World) (hl : (FloatKind.f64.format.order x y == some .lt || FloatKind.f64.format.order x y == some .eq) = true) (fab : decide (a > b) = false) (c0 : decide (c < 0) = false) (cn : decide (c > n) = false) (n0 : decide (n ≥ 0) = true) (n1 : decide (n ≤ 100000) = true) (T1 : TickC x a 0) (T2 : TickC y b 0) (S1 : ShareC x n c 0) (S2 : ShareC y n d 1) (S3 : ShareC 4607182418800017408 n n 0) :
    Calls Try.prog 5 #[.float .f64 x, .float .f64 y, .int .i64 n] w fun e w' => e = .returned (.bool true) ∧ Below w.heap.size w w' := by
  go_enter Try.func5, Try.ntmps5
  go_wp2_with fail
  refine (T1.out _).mono ?_; rintro e w1 ⟨rfl, rfl⟩
  go_wp2_with fail
  refine (T2.out _).mono ?_; rintro e w1 ⟨rfl, rfl⟩
  go_wp2_with fail
  refine (S1.out _).mono ?_; rintro e w1 ⟨rfl, rfl⟩
  go_wp2_with fail
  refine (S2.out _).mono ?_; rintro e w1 ⟨rfl, rfl⟩
  go_wp2_with fail
  refine (S3.out _).mono ?_; rintro e w1 ⟨rfl, rfl⟩
  go_wp2_with fail
  refine (fixed_val _).mono ?_; rintro e w1 ⟨rfl, rfl⟩
  go_wp2_with fail
  go_ret
  exact ⟨rfl, Below.refl _ _⟩

set_option maxRecDepth 100000 in
theorem grows_tccok (x y : Nat) (n a b c d r f h : Int) (w : World) (hl : (FloatKind.f64.format.order x y == some .lt || FloatKind.f64.format.order x y == some .eq) = true) (fab : decide (a > b) = false) (c0 : decide (c < 0) = false) (cn : decide (c > n) = false) (fcd : decide (c > d) = false) (n0 : decide (n ≥ 0) = true) (n1 : decide (n ≤ 100000) = true) (T1 : TickC x a 0) (T2 : TickC y b 0) (S1 : ShareC x n c 0) (S2 : ShareC y n d 0) (S3 : ShareC 4607182418800017408 n n 0) :
    Calls Try.prog 5 #[.float .f64 x, .float .f64 y, .int .i64 n] w fun e w' => e = .returned (.bool true) ∧ Below w.heap.size w w' := by
  go_enter Try.func5, Try.ntmps5
  go_wp2_with fail
  refine (T1.out _).mono ?_; rintro e w1 ⟨rfl, rfl⟩
  go_wp2_with fail
  refine (T2.out _).mono ?_; rintro e w1 ⟨rfl, rfl⟩
  go_wp2_with fail
  refine (S1.out _).mono ?_; rintro e w1 ⟨rfl, rfl⟩
  go_wp2_with fail
  refine (S2.out _).mono ?_; rintro e w1 ⟨rfl, rfl⟩
  go_wp2_with fail
  refine (S3.out _).mono ?_; rintro e w1 ⟨rfl, rfl⟩
  go_wp2_with fail
  refine (fixed_val _).mono ?_; rintro e w1 ⟨rfl, rfl⟩
  go_wp2_with fail
  go_ret
  exact ⟨rfl, Below.refl _ _⟩

set_option maxRecDepth 100000 in
theorem grows_faaok (x y : Nat) (n a b c d r f h : Int) (w : World) (hl : (FloatKind.f64.format.order x y == some .lt || FloatKind.f64.format.order x y == some .eq) = false) (n0 : decide (n ≥ 0) = true) (n1 : decide (n ≤ 100000) = true) (T1 : TickC x a 1) (T2 : TickC y b f) (S1 : ShareC x n c 1) (S2 : ShareC y n d h) (S3 : ShareC 4607182418800017408 n n 0) :
    Calls Try.prog 5 #[.float .f64 x, .float .f64 y, .int .i64 n] w fun e w' => e = .returned (.bool true) ∧ Below w.heap.size w w' := by
  go_enter Try.func5, Try.ntmps5
  go_wp2_with fail
  refine (T1.out _).mono ?_; rintro e w1 ⟨rfl, rfl⟩
  go_wp2_with fail
  refine (T2.out _).mono ?_; rintro e w1 ⟨rfl, rfl⟩
  go_wp2_with fail
  refine (S1.out _).mono ?_; rintro e w1 ⟨rfl, rfl⟩
  go_wp2_with fail
  refine (S2.out _).mono ?_; rintro e w1 ⟨rfl, rfl⟩
  go_wp2_with fail
  refine (S3.out _).mono ?_; rintro e w1 ⟨rfl, rfl⟩
  go_wp2_with fail
  refine (fixed_val _).mono ?_; rintro e w1 ⟨rfl, rfl⟩
  go_wp2_with fail
  go_ret
  exact ⟨rfl, Below.refl _ _⟩

set_option maxRecDepth 100000 in
theorem grows_faalo (x y : Nat) (n a b c d r f h : Int) (w : World) (hl : (FloatKind.f64.format.order x y == some .lt || FloatKind.f64.format.order x y == some .eq) = false) (n0 : decide (n ≥ 0) = false) (T1 : TickC x a 1) (T2 : TickC y b f) (S1 : ShareC x n c 1) (S2 : ShareC y n d h) (S3 : ShareC 4607182418800017408 n r 1) :
    Calls Try.prog 5 #[.float .f64 x, .float .f64 y, .int .i64 n] w fun e w' => e = .returned (.bool true) ∧ Below w.heap.size w w' := by
  go_enter Try.func5, Try.ntmps5
  go_wp2_with fail
  refine (T1.out _).mono ?_; rintro e w1 ⟨rfl, rfl⟩
  go_wp2_with fail
  refine (T2.out _).mono ?_; rintro e w1 ⟨rfl, rfl⟩
  go_wp2_with fail
  refine (S1.out _).mono ?_; rintro e w1 ⟨rfl, rfl⟩
  go_wp2_with fail
  refine (S2.out _).mono ?_; rintro e w1 ⟨rfl, rfl⟩
  go_wp2_with fail
  refine (S3.out _).mono ?_; rintro e w1 ⟨rfl, rfl⟩
  go_wp2_with fail
  refine (fixed_val _).mono ?_; rintro e w1 ⟨rfl, rfl⟩
  go_wp2_with fail
  go_ret
  exact ⟨rfl, Below.refl _ _⟩

set_option maxRecDepth 100000 in
theorem grows_faahi (x y : Nat) (n a b c d r f h : Int) (w : World) (hl : (FloatKind.f64.format.order x y == some .lt || FloatKind.f64.format.order x y == some .eq) = false) (n0 : decide (n ≥ 0) = true) (n1 : decide (n ≤ 100000) = false) (T1 : TickC x a 1) (T2 : TickC y b f) (S1 : ShareC x n c 1) (S2 : ShareC y n d h) (S3 : ShareC 4607182418800017408 n r 1) :
    Calls Try.prog 5 #[.float .f64 x, .float .f64 y, .int .i64 n] w fun e w' => e = .returned (.bool true) ∧ Below w.heap.size w w' := by
  go_enter Try.func5, Try.ntmps5
  go_wp2_with fail
  refine (T1.out _).mono ?_; rintro e w1 ⟨rfl, rfl⟩
  go_wp2_with fail
  refine (T2.out _).mono ?_; rintro e w1 ⟨rfl, rfl⟩
  go_wp2_with fail
  refine (S1.out _).mono ?_; rintro e w1 ⟨rfl, rfl⟩
  go_wp2_with fail
  refine (S2.out _).mono ?_; rintro e w1 ⟨rfl, rfl⟩
  go_wp2_with fail
  refine (S3.out _).mono ?_; rintro e w1 ⟨rfl, rfl⟩
  go_wp2_with fail
  refine (fixed_val _).mono ?_; rintro e w1 ⟨rfl, rfl⟩
  go_wp2_with fail
  go_ret
  exact ⟨rfl, Below.refl _ _⟩

set_option maxRecDepth 100000 in
theorem grows_fabok (x y : Nat) (n a b c d r f h : Int) (w : World) (hl : (FloatKind.f64.format.order x y == some .lt || FloatKind.f64.format.order x y == some .eq) = false) (c0 : decide (c < 0) = false) (cn : decide (c > n) = false) (n0 : decide (n ≥ 0) = true) (n1 : decide (n ≤ 100000) = true) (T1 : TickC x a 1) (T2 : TickC y b f) (S1 : ShareC x n c 0) (S2 : ShareC y n d 1) (S3 : ShareC 4607182418800017408 n n 0) :
    Calls Try.prog 5 #[.float .f64 x, .float .f64 y, .int .i64 n] w fun e w' => e = .returned (.bool true) ∧ Below w.heap.size w w' := by
  go_enter Try.func5, Try.ntmps5
  go_wp2_with fail
  refine (T1.out _).mono ?_; rintro e w1 ⟨rfl, rfl⟩
  go_wp2_with fail
  refine (T2.out _).mono ?_; rintro e w1 ⟨rfl, rfl⟩
  go_wp2_with fail
  refine (S1.out _).mono ?_; rintro e w1 ⟨rfl, rfl⟩
  go_wp2_with fail
  refine (S2.out _).mono ?_; rintro e w1 ⟨rfl, rfl⟩
  go_wp2_with fail
  refine (S3.out _).mono ?_; rintro e w1 ⟨rfl, rfl⟩
  go_wp2_with fail
  refine (fixed_val _).mono ?_; rintro e w1 ⟨rfl, rfl⟩
  go_wp2_with fail
  go_ret
  exact ⟨rfl, Below.refl _ _⟩

set_option maxRecDepth 100000 in
theorem grows_facok (x y : Nat) (n a b c d r f h : Int) (w : World) (hl : (FloatKind.f64.format.order x y == some .lt || FloatKind.f64.format.order x y == some .eq) = false) (c0 : decide (c < 0) = false) (cn : decide (c > n) = false) (n0 : decide (n ≥ 0) = true) (n1 : decide (n ≤ 100000) = true) (T1 : TickC x a 1) (T2 : TickC y b f) (S1 : ShareC x n c 0) (S2 : ShareC y n d 0) (S3 : ShareC 4607182418800017408 n n 0) :
    Calls Try.prog 5 #[.float .f64 x, .float .f64 y, .int .i64 n] w fun e w' => e = .returned (.bool true) ∧ Below w.heap.size w w' := by
  go_enter Try.func5, Try.ntmps5
  go_wp2_with fail
  refine (T1.out _).mono ?_; rintro e w1 ⟨rfl, rfl⟩
  go_wp2_with fail
  refine (T2.out _).mono ?_; rintro e w1 ⟨rfl, rfl⟩
  go_wp2_with fail
  refine (S1.out _).mono ?_; rintro e w1 ⟨rfl, rfl⟩
  go_wp2_with fail
  refine (S2.out _).mono ?_; rintro e w1 ⟨rfl, rfl⟩
  go_wp2_with fail
  refine (S3.out _).mono ?_; rintro e w1 ⟨rfl, rfl⟩
  go_wp2_with fail
  refine (fixed_val _).mono ?_; rintro e w1 ⟨rfl, rfl⟩
  go_wp2_with fail
  go_ret
  exact ⟨rfl, Below.refl _ _⟩

set_option maxRecDepth 100000 in
theorem grows_fbaok (x y : Nat) (n a b c d r f h : Int) (w : World) (hl : (FloatKind.f64.format.order x y == some .lt || FloatKind.f64.format.order x y == some .eq) = false) (n0 : decide (n ≥ 0) = true) (n1 : decide (n ≤ 100000) = true) (T1 : TickC x a 0) (T2 : TickC y b 1) (S1 : ShareC x n c 1) (S2 : ShareC y n d h) (S3 : ShareC 4607182418800017408 n n 0) :
    Calls Try.prog 5 #[.float .f64 x, .float .f64 y, .int .i64 n] w fun e w' => e = .returned (.bool true) ∧ Below w.heap.size w w' := by
  go_enter Try.func5, Try.ntmps5
  go_wp2_with fail
  refine (T1.out _).mono ?_; rintro e w1 ⟨rfl, rfl⟩
  go_wp2_with fail
  refine (T2.out _).mono ?_; rintro e w1 ⟨rfl, rfl⟩
  go_wp2_with fail
  refine (S1.out _).mono ?_; rintro e w1 ⟨rfl, rfl⟩
  go_wp2_with fail
  refine (S2.out _).mono ?_; rintro e w1 ⟨rfl, rfl⟩
  go_wp2_with fail
  refine (S3.out _).mono ?_; rintro e w1 ⟨rfl, rfl⟩
  go_wp2_with fail
  refine (fixed_val _).mono ?_; rintro e w1 ⟨rfl, rfl⟩
  go_wp2_with fail
  go_ret
  exact ⟨rfl, Below.refl _ _⟩

set_option maxRecDepth 100000 in
theorem grows_fbalo (x y : Nat) (n a b c d r f h : Int) (w : World) (hl : (FloatKind.f64.format.order x y == some .lt || FloatKind.f64.format.order x y == some .eq) = false) (n0 : decide (n ≥ 0) = false) (T1 : TickC x a 0) (T2 : TickC y b 1) (S1 : ShareC x n c 1) (S2 : ShareC y n d h) (S3 : ShareC 4607182418800017408 n r 1) :
    Calls Try.prog 5 #[.float .f64 x, .float .f64 y, .int .i64 n] w fun e w' => e = .returned (.bool true) ∧ Below w.heap.size w w' := by
  go_enter Try.func5, Try.ntmps5
  go_wp2_with fail
  refine (T1.out _).mono ?_; rintro e w1 ⟨rfl, rfl⟩
  go_wp2_with fail
  refine (T2.out _).mono ?_; rintro e w1 ⟨rfl, rfl⟩
  go_wp2_with fail
  refine (S1.out _).mono ?_; rintro e w1 ⟨rfl, rfl⟩
  go_wp2_with fail
  refine (S2.out _).mono ?_; rintro e w1 ⟨rfl, rfl⟩
  go_wp2_with fail
  refine (S3.out _).mono ?_; rintro e w1 ⟨rfl, rfl⟩
  go_wp2_with fail
  refine (fixed_val _).mono ?_; rintro e w1 ⟨rfl, rfl⟩
  go_wp2_with fail
  go_ret
  exact ⟨rfl, Below.refl _ _⟩

set_option maxRecDepth 100000 in
theorem grows_fbahi (x y : Nat) (n a b c d r f h : Int) (w : World) (hl : (FloatKind.f64.format.order x y == some .lt || FloatKind.f64.format.order x y == some .eq) = false) (n0 : decide (n ≥ 0) = true) (n1 : decide (n ≤ 100000) = false) (T1 : TickC x a 0) (T2 : TickC y b 1) (S1 : ShareC x n c 1) (S2 : ShareC y n d h) (S3 : ShareC 4607182418800017408 n r 1) :
    Calls Try.prog 5 #[.float .f64 x, .float .f64 y, .int .i64 n] w fun e w' => e = .returned (.bool true) ∧ Below w.heap.size w w' := by
  go_enter Try.func5, Try.ntmps5
  go_wp2_with fail
  refine (T1.out _).mono ?_; rintro e w1 ⟨rfl, rfl⟩
  go_wp2_with fail
  refine (T2.out _).mono ?_; rintro e w1 ⟨rfl, rfl⟩
  go_wp2_with fail
  refine (S1.out _).mono ?_; rintro e w1 ⟨rfl, rfl⟩
  go_wp2_with fail
  refine (S2.out _).mono ?_; rintro e w1 ⟨rfl, rfl⟩
  go_wp2_with fail
  refine (S3.out _).mono ?_; rintro e w1 ⟨rfl, rfl⟩
  go_wp2_with fail
  refine (fixed_val _).mono ?_; rintro e w1 ⟨rfl, rfl⟩
  go_wp2_with fail
  go_ret
  exact ⟨rfl, Below.refl _ _⟩

set_option maxRecDepth 100000 in
theorem grows_fbbok (x y : Nat) (n a b c d r f h : Int) (w : World) (hl : (FloatKind.f64.format.order x y == some .lt || FloatKind.f64.format.order x y == some .eq) = false) (c0 : decide (c < 0) = false) (cn : decide (c > n) = false) (n0 : decide (n ≥ 0) = true) (n1 : decide (n ≤ 100000) = true) (T1 : TickC x a 0) (T2 : TickC y b 1) (S1 : ShareC x n c 0) (S2 : ShareC y n d 1) (S3 : ShareC 4607182418800017408 n n 0) :
    Calls Try.prog 5 #[.float .f64 x, .float .f64 y, .int .i64 n] w fun e w' => e = .returned (.bool true) ∧ Below w.heap.size w w' := by
  go_enter Try.func5, Try.ntmps5
  go_wp2_with fail
  refine (T1.out _).mono ?_; rintro e w1 ⟨rfl, rfl⟩
  go_wp2_with fail
  refine (T2.out _).mono ?_; rintro e w1 ⟨rfl, rfl⟩
  go_wp2_with fail
  refine (S1.out _).mono ?_; rintro e w1 ⟨rfl, rfl⟩
  go_wp2_with fail
  refine (S2.out _).mono ?_; rintro e w1 ⟨rfl, rfl⟩
  go_wp2_with fail
  refine (S3.out _).mono ?_; rintro e w1 ⟨rfl, rfl⟩
  go_wp2_with fail
  refine (fixed_val _).mono ?_; rintro e w1 ⟨rfl, rfl⟩
  go_wp2_with fail
  go_ret
  exact ⟨rfl, Below.refl _ _⟩

set_option maxRecDepth 100000 in
theorem grows_fbcok (x y : Nat) (n a b c d r f h : Int) (w : World) (hl : (FloatKind.f64.format.order x y == some .lt || FloatKind.f64.format.order x y == some .eq) = false) (c0 : decide (c < 0) = false) (cn : decide (c > n) = false) (n0 : decide (n ≥ 0) = true) (n1 : decide (n ≤ 100000) = true) (T1 : TickC x a 0) (T2 : TickC y b 1) (S1 : ShareC x n c 0) (S2 : ShareC y n d 0) (S3 : ShareC 4607182418800017408 n n 0) :
    Calls Try.prog 5 #[.float .f64 x, .float .f64 y, .int .i64 n] w fun e w' => e = .returned (.bool true) ∧ Below w.heap.size w w' := by
  go_enter Try.func5, Try.ntmps5
  go_wp2_with fail
  refine (T1.out _).mono ?_; rintro e w1 ⟨rfl, rfl⟩
  go_wp2_with fail
  refine (T2.out _).mono ?_; rintro e w1 ⟨rfl, rfl⟩
  go_wp2_with fail
  refine (S1.out _).mono ?_; rintro e w1 ⟨rfl, rfl⟩
  go_wp2_with fail
  refine (S2.out _).mono ?_; rintro e w1 ⟨rfl, rfl⟩
  go_wp2_with fail
  refine (S3.out _).mono ?_; rintro e w1 ⟨rfl, rfl⟩
  go_wp2_with fail
  refine (fixed_val _).mono ?_; rintro e w1 ⟨rfl, rfl⟩
  go_wp2_with fail
  go_ret
  exact ⟨rfl, Below.refl _ _⟩

set_option maxRecDepth 100000 in
theorem grows_fcaok (x y : Nat) (n a b c d r f h : Int) (w : World) (hl : (FloatKind.f64.format.order x y == some .lt || FloatKind.f64.format.order x y == some .eq) = false) (n0 : decide (n ≥ 0) = true) (n1 : decide (n ≤ 100000) = true) (T1 : TickC x a 0) (T2 : TickC y b 0) (S1 : ShareC x n c 1) (S2 : ShareC y n d h) (S3 : ShareC 4607182418800017408 n n 0) :
    Calls Try.prog 5 #[.float .f64 x, .float .f64 y, .int .i64 n] w fun e w' => e = .returned (.bool true) ∧ Below w.heap.size w w' := by
  go_enter Try.func5, Try.ntmps5
  go_wp2_with fail
  refine (T1.out _).mono ?_; rintro e w1 ⟨rfl, rfl⟩
  go_wp2_with fail
  refine (T2.out _).mono ?_; rintro e w1 ⟨rfl, rfl⟩
  go_wp2_with fail
  refine (S1.out _).mono ?_; rintro e w1 ⟨rfl, rfl⟩
  go_wp2_with fail
  refine (S2.out _).mono ?_; rintro e w1 ⟨rfl, rfl⟩
  go_wp2_with fail
  refine (S3.out _).mono ?_; rintro e w1 ⟨rfl, rfl⟩
  go_wp2_with fail
  refine (fixed_val _).mono ?_; rintro e w1 ⟨rfl, rfl⟩
  go_wp2_with fail
  go_ret
  exact ⟨rfl, Below.refl _ _⟩

set_option maxRecDepth 100000 in
theorem grows_fcalo (x y : Nat) (n a b c d r f h : Int) (w : World) (hl : (FloatKind.f64.format.order x y == some .lt || FloatKind.f64.format.order x y == some .eq) = false) (n0 : decide (n ≥ 0) = false) (T1 : TickC x a 0) (T2 : TickC y b 0) (S1 : ShareC x n c 1) (S2 : ShareC y n d h) (S3 : ShareC 4607182418800017408 n r 1) :
    Calls Try.prog 5 #[.float .f64 x, .float .f64 y, .int .i64 n] w fun e w' => e = .returned (.bool true) ∧ Below w.heap.size w w' := by
  go_enter Try.func5, Try.ntmps5
  go_wp2_with fail
  refine (T1.out _).mono ?_; rintro e w1 ⟨rfl, rfl⟩
  go_wp2_with fail
  refine (T2.out _).mono ?_; rintro e w1 ⟨rfl, rfl⟩
  go_wp2_with fail
  refine (S1.out _).mono ?_; rintro e w1 ⟨rfl, rfl⟩
  go_wp2_with fail
  refine (S2.out _).mono ?_; rintro e w1 ⟨rfl, rfl⟩
  go_wp2_with fail
  refine (S3.out _).mono ?_; rintro e w1 ⟨rfl, rfl⟩
  go_wp2_with fail
  refine (fixed_val _).mono ?_; rintro e w1 ⟨rfl, rfl⟩
  go_wp2_with fail
  go_ret
  exact ⟨rfl, Below.refl _ _⟩

set_option maxRecDepth 100000 in
theorem grows_fcahi (x y : Nat) (n a b c d r f h : Int) (w : World) (hl : (FloatKind.f64.format.order x y == some .lt || FloatKind.f64.format.order x y == some .eq) = false) (n0 : decide (n ≥ 0) = true) (n1 : decide (n ≤ 100000) = false) (T1 : TickC x a 0) (T2 : TickC y b 0) (S1 : ShareC x n c 1) (S2 : ShareC y n d h) (S3 : ShareC 4607182418800017408 n r 1) :
    Calls Try.prog 5 #[.float .f64 x, .float .f64 y, .int .i64 n] w fun e w' => e = .returned (.bool true) ∧ Below w.heap.size w w' := by
  go_enter Try.func5, Try.ntmps5
  go_wp2_with fail
  refine (T1.out _).mono ?_; rintro e w1 ⟨rfl, rfl⟩
  go_wp2_with fail
  refine (T2.out _).mono ?_; rintro e w1 ⟨rfl, rfl⟩
  go_wp2_with fail
  refine (S1.out _).mono ?_; rintro e w1 ⟨rfl, rfl⟩
  go_wp2_with fail
  refine (S2.out _).mono ?_; rintro e w1 ⟨rfl, rfl⟩
  go_wp2_with fail
  refine (S3.out _).mono ?_; rintro e w1 ⟨rfl, rfl⟩
  go_wp2_with fail
  refine (fixed_val _).mono ?_; rintro e w1 ⟨rfl, rfl⟩
  go_wp2_with fail
  go_ret
  exact ⟨rfl, Below.refl _ _⟩

set_option maxRecDepth 100000 in
theorem grows_fcbok (x y : Nat) (n a b c d r f h : Int) (w : World) (hl : (FloatKind.f64.format.order x y == some .lt || FloatKind.f64.format.order x y == some .eq) = false) (c0 : decide (c < 0) = false) (cn : decide (c > n) = false) (n0 : decide (n ≥ 0) = true) (n1 : decide (n ≤ 100000) = true) (T1 : TickC x a 0) (T2 : TickC y b 0) (S1 : ShareC x n c 0) (S2 : ShareC y n d 1) (S3 : ShareC 4607182418800017408 n n 0) :
    Calls Try.prog 5 #[.float .f64 x, .float .f64 y, .int .i64 n] w fun e w' => e = .returned (.bool true) ∧ Below w.heap.size w w' := by
  go_enter Try.func5, Try.ntmps5
  go_wp2_with fail
  refine (T1.out _).mono ?_; rintro e w1 ⟨rfl, rfl⟩
  go_wp2_with fail
  refine (T2.out _).mono ?_; rintro e w1 ⟨rfl, rfl⟩
  go_wp2_with fail
  refine (S1.out _).mono ?_; rintro e w1 ⟨rfl, rfl⟩
  go_wp2_with fail
  refine (S2.out _).mono ?_; rintro e w1 ⟨rfl, rfl⟩
  go_wp2_with fail
  refine (S3.out _).mono ?_; rintro e w1 ⟨rfl, rfl⟩
  go_wp2_with fail
  refine (fixed_val _).mono ?_; rintro e w1 ⟨rfl, rfl⟩
  go_wp2_with fail
  go_ret
  exact ⟨rfl, Below.refl _ _⟩

set_option maxRecDepth 100000 in
theorem grows_fccok (x y : Nat) (n a b c d r f h : Int) (w : World) (hl : (FloatKind.f64.format.order x y == some .lt || FloatKind.f64.format.order x y == some .eq) = false) (c0 : decide (c < 0) = false) (cn : decide (c > n) = false) (n0 : decide (n ≥ 0) = true) (n1 : decide (n ≤ 100000) = true) (T1 : TickC x a 0) (T2 : TickC y b 0) (S1 : ShareC x n c 0) (S2 : ShareC y n d 0) (S3 : ShareC 4607182418800017408 n n 0) :
    Calls Try.prog 5 #[.float .f64 x, .float .f64 y, .int .i64 n] w fun e w' => e = .returned (.bool true) ∧ Below w.heap.size w w' := by
  go_enter Try.func5, Try.ntmps5
  go_wp2_with fail
  refine (T1.out _).mono ?_; rintro e w1 ⟨rfl, rfl⟩
  go_wp2_with fail
  refine (T2.out _).mono ?_; rintro e w1 ⟨rfl, rfl⟩
  go_wp2_with fail
  refine (S1.out _).mono ?_; rintro e w1 ⟨rfl, rfl⟩
  go_wp2_with fail
  refine (S2.out _).mono ?_; rintro e w1 ⟨rfl, rfl⟩
  go_wp2_with fail
  refine (S3.out _).mono ?_; rintro e w1 ⟨rfl, rfl⟩
  go_wp2_with fail
  refine (fixed_val _).mono ?_; rintro e w1 ⟨rfl, rfl⟩
  go_wp2_with fail
  go_ret
  exact ⟨rfl, Below.refl _ _⟩

theorem tickE_or (x : Nat) : F.tickE x = 0 ∨ F.tickE x = 1 := by unfold F.tickE; by_cases h : F.timely x; rw [if_pos h]; omega; rw [if_neg h]; omega
theorem shE_or (x : Nat) (n : Int) : F.shE x n = 0 ∨ F.shE x n = 1 := by unfold F.shE; by_cases h : F.shareable x n; rw [if_pos h]; omega; rw [if_neg h]; omega

theorem grows_main (x y : Nat) (n : Int) (w : World) (hx : x < 18446744073709551616) (hy : y < 18446744073709551616) (hn : -9223372036854775808 ≤ n ∧ n ≤ 9223372036854775807) :
    Calls Try.prog 5 #[.float .f64 x, .float .f64 y, .int .i64 n] w fun e w' => e = .returned (.bool true) ∧ Below w.heap.size w w' := by
  have T1 : TickC x (F.tickV x : Nat) (F.tickE x : Nat) := Lib.hid (fun W => Ticks_val x W hx)
  have T2 : TickC y (F.tickV y : Nat) (F.tickE y : Nat) := Lib.hid (fun W => Ticks_val y W hy)
  have S1 : ShareC x n (F.shV x n : Nat) (F.shE x n : Nat) := Lib.hid (fun W => Share_val x n W hx hn)
  have S2 : ShareC y n (F.shV y n : Nat) (F.shE y n : Nat) := Lib.hid (fun W => Share_val y n W hy hn)
  have S3 : ShareC 4607182418800017408 n (F.shV 4607182418800017408 n : Nat) (F.shE 4607182418800017408 n : Nat) := Lib.hid (fun W => Share_val 4607182418800017408 n W (by omega) hn)
  have rng : (∃ (h0 : decide (n ≥ 0) = true) (h1 : decide (n ≤ 100000) = true), ShareC 4607182418800017408 n n 0) ∨ (∃ (h0 : decide (n ≥ 0) = false), ShareC 4607182418800017408 n (F.shV 4607182418800017408 n : Nat) 1) ∨
      (∃ (h0 : decide (n ≥ 0) = true) (h1 : decide (n ≤ 100000) = false), ShareC 4607182418800017408 n (F.shV 4607182418800017408 n : Nat) 1) := by
    by_cases h0 : 0 ≤ n
    · by_cases h1 : n ≤ 100000
      · have h := F.share_one n h0 h1
        rw [h.1, h.2] at S3
        exact Or.inl ⟨decide_eq_true h0, decide_eq_true h1, S3⟩
      · rw [F.share_one_bad n (by omega)] at S3
        exact Or.inr (Or.inr ⟨decide_eq_true h0, decide_eq_false h1, S3⟩)
    · rw [F.share_one_bad n (by omega)] at S3
      exact Or.inr (Or.inl ⟨decide_eq_false h0, S3⟩)
  clear S3
  have sl : F.shE x n = 0 → decide (((F.shV x n : Nat) : Int) < 0) = false ∧ decide (((F.shV x n : Nat) : Int) > n) = false ∧ 0 ≤ n ∧ n ≤ 100000 := fun e => by
    have h := F.share_le x n e
    exact ⟨decide_eq_false (by omega), decide_eq_false (by omega), h.1, h.2.1⟩
  rcases two_tf (FloatKind.f64.format.order x y == some .lt || FloatKind.f64.format.order x y == some .eq) with hl | hl
  · have tg := F.ticks_grow x y hx hy hl
    have sg := F.share_grow x y n hx hy hl
    rcases tickE_or x with e | e
    · obtain ⟨te, tv⟩ := tg e
      rw [e] at T1
      rw [te] at T2
      have fab : decide (((F.tickV x : Nat) : Int) > ((F.tickV y : Nat) : Int)) = false := decide_eq_false (by omega)
      rcases shE_or x n with g | g
      · obtain ⟨c0, cn, r0, r1⟩ := sl g
        have OK : ShareC 4607182418800017408 n n 0 := by
          rcases rng with ⟨_, _, h⟩ | ⟨h, _⟩ | ⟨_, h, _⟩
          · exact h
          · exact absurd (show n ≥ 0 from r0) (of_decide_eq_false h)
          · exact absurd r1 (of_decide_eq_false h)
        rw [g] at S1
        rcases shE_or y n with h | h
        · rw [h] at S2
          exact grows_tccok x y n _ _ _ _ 0 0 0 w hl fab c0 cn (decide_eq_false (by have := sg g h; omega)) (decide_eq_true r0) (decide_eq_true r1) T1 T2 S1 S2 OK
        · rw [h] at S2
          exact grows_tcbok x y n _ _ _ _ 0 0 0 w hl fab c0 cn (decide_eq_true r0) (decide_eq_true r1) T1 T2 S1 S2 OK
      · rw [g] at S1
        rcases rng with ⟨h0, h1, S3⟩ | ⟨h0, S3⟩ | ⟨h0, h1, S3⟩
        · exact grows_tcaok x y n _ _ _ _ 0 0 _ w hl fab h0 h1 T1 T2 S1 S2 S3
        · exact grows_tcalo x y n _ _ _ _ _ 0 _ w hl fab h0 T1 T2 S1 S2 S3
        · exact grows_tcahi x y n _ _ _ _ _ 0 _ w hl fab h0 h1 T1 T2 S1 S2 S3
    · rw [e] at T1
      rcases shE_or x n with g | g
      · obtain ⟨c0, cn, r0, r1⟩ := sl g
        have OK : ShareC 4607182418800017408 n n 0 := by
          rcases rng with ⟨_, _, h⟩ | ⟨h, _⟩ | ⟨_, h, _⟩
          · exact h
          · exact absurd (show n ≥ 0 from r0) (of_decide_eq_false h)
          · exact absurd r1 (of_decide_eq_false h)
        rw [g] at S1
        rcases shE_or y n with h | h
        · rw [h] at S2
          exact grows_tacok x y n _ _ _ _ 0 _ 0 w hl c0 cn (decide_eq_false (by have := sg g h; omega)) (decide_eq_true r0) (decide_eq_true r1) T1 T2 S1 S2 OK
        · rw [h] at S2
          exact grows_tabok x y n _ _ _ _ 0 _ 0 w hl c0 cn (decide_eq_true r0) (decide_eq_true r1) T1 T2 S1 S2 OK
      · rw [g] at S1
        rcases rng with ⟨h0, h1, S3⟩ | ⟨h0, S3⟩ | ⟨h0, h1, S3⟩
        · exact grows_taaok x y n _ _ _ _ 0 _ _ w hl h0 h1 T1 T2 S1 S2 S3
        · exact grows_taalo x y n _ _ _ _ _ _ _ w hl h0 T1 T2 S1 S2 S3
        · exact grows_taahi x y n _ _ _ _ _ _ _ w hl h0 h1 T1 T2 S1 S2 S3
  · rcases tickE_or x with e | e
    · rw [e] at T1
      rcases tickE_or y with f | f
      · rw [f] at T2
        rcases shE_or x n with g | g
        · obtain ⟨c0, cn, r0, r1⟩ := sl g
          have OK : ShareC 4607182418800017408 n n 0 := by
            rcases rng with ⟨_, _, h⟩ | ⟨h, _⟩ | ⟨_, h, _⟩
            · exact h
            · exact absurd (show n ≥ 0 from r0) (of_decide_eq_false h)
            · exact absurd r1 (of_decide_eq_false h)
          rw [g] at S1
          rcases shE_or y n with h | h
          · rw [h] at S2
            exact grows_fccok x y n _ _ _ _ 0 0 0 w hl c0 cn (decide_eq_true r0) (decide_eq_true r1) T1 T2 S1 S2 OK
          · rw [h] at S2
            exact grows_fcbok x y n _ _ _ _ 0 0 0 w hl c0 cn (decide_eq_true r0) (decide_eq_true r1) T1 T2 S1 S2 OK
        · rw [g] at S1
          rcases rng with ⟨h0, h1, S3⟩ | ⟨h0, S3⟩ | ⟨h0, h1, S3⟩
          · exact grows_fcaok x y n _ _ _ _ 0 0 _ w hl h0 h1 T1 T2 S1 S2 S3
          · exact grows_fcalo x y n _ _ _ _ _ 0 _ w hl h0 T1 T2 S1 S2 S3
          · exact grows_fcahi x y n _ _ _ _ _ 0 _ w hl h0 h1 T1 T2 S1 S2 S3
      · rw [f] at T2
        rcases shE_or x n with g | g
        · obtain ⟨c0, cn, r0, r1⟩ := sl g
          have OK : ShareC 4607182418800017408 n n 0 := by
            rcases rng with ⟨_, _, h⟩ | ⟨h, _⟩ | ⟨_, h, _⟩
            · exact h
            · exact absurd (show n ≥ 0 from r0) (of_decide_eq_false h)
            · exact absurd r1 (of_decide_eq_false h)
          rw [g] at S1
          rcases shE_or y n with h | h
          · rw [h] at S2
            exact grows_fbcok x y n _ _ _ _ 0 0 0 w hl c0 cn (decide_eq_true r0) (decide_eq_true r1) T1 T2 S1 S2 OK
          · rw [h] at S2
            exact grows_fbbok x y n _ _ _ _ 0 0 0 w hl c0 cn (decide_eq_true r0) (decide_eq_true r1) T1 T2 S1 S2 OK
        · rw [g] at S1
          rcases rng with ⟨h0, h1, S3⟩ | ⟨h0, S3⟩ | ⟨h0, h1, S3⟩
          · exact grows_fbaok x y n _ _ _ _ 0 0 _ w hl h0 h1 T1 T2 S1 S2 S3
          · exact grows_fbalo x y n _ _ _ _ _ 0 _ w hl h0 T1 T2 S1 S2 S3
          · exact grows_fbahi x y n _ _ _ _ _ 0 _ w hl h0 h1 T1 T2 S1 S2 S3
    · rw [e] at T1
      rcases shE_or x n with g | g
      · obtain ⟨c0, cn, r0, r1⟩ := sl g
        have OK : ShareC 4607182418800017408 n n 0 := by
          rcases rng with ⟨_, _, h⟩ | ⟨h, _⟩ | ⟨_, h, _⟩
          · exact h
          · exact absurd (show n ≥ 0 from r0) (of_decide_eq_false h)
          · exact absurd r1 (of_decide_eq_false h)
        rw [g] at S1
        rcases shE_or y n with h | h
        · rw [h] at S2
          exact grows_facok x y n _ _ _ _ 0 _ 0 w hl c0 cn (decide_eq_true r0) (decide_eq_true r1) T1 T2 S1 S2 OK
        · rw [h] at S2
          exact grows_fabok x y n _ _ _ _ 0 _ 0 w hl c0 cn (decide_eq_true r0) (decide_eq_true r1) T1 T2 S1 S2 OK
      · rw [g] at S1
        rcases rng with ⟨h0, h1, S3⟩ | ⟨h0, S3⟩ | ⟨h0, h1, S3⟩
        · exact grows_faaok x y n _ _ _ _ 0 _ _ w hl h0 h1 T1 T2 S1 S2 S3
        · exact grows_faalo x y n _ _ _ _ _ _ _ w hl h0 T1 T2 S1 S2 S3
        · exact grows_faahi x y n _ _ _ _ _ _ _ w hl h0 h1 T1 T2 S1 S2 S3

theorem TtlGrows_walk (a0 a1 : Nat) (a2 : Int) (w : World) (w0 : (Lit.float .f64 a0).wf = true) (w1 : (Lit.float .f64 a1).wf = true) (w2 : (Lit.int .i64 a2).wf = true) :
    Calls Try.prog 5 #[.float .f64 a0, .float .f64 a1, .int .i64 a2] w fun e w' => e = .returned (.bool true) ∧ Below w.heap.size w w' := by
  have w0 : a0 < 18446744073709551616 := by simpa [Lit.wf] using w0
  have w1 : a1 < 18446744073709551616 := by simpa [Lit.wf] using w1
  have h : IntKind.i64.min ≤ a2 ∧ a2 ≤ IntKind.i64.max := by simpa only [Lit.wf, Bool.and_eq_true, decide_eq_true_eq] using w2
  have e1 : IntKind.i64.min = -9223372036854775808 := by decide
  have e2 : IntKind.i64.max = 9223372036854775807 := by decide
  rw [e1, e2] at h
  exact grows_main a0 a1 a2 w w0 w1 h
end Go.Proofs.Ytgnmhepneahhdaa.L
