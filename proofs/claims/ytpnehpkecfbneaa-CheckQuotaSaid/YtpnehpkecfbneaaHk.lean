/- Package ttl at the numbers that the fixed calls name: the kind, a share. -/
import Derived.Test.YtpnehpkecfbneaaGMisc
import Derived.WalkKit
import Derived.Laws.Rows
import Derived.Laws.FloatArith
import Derived.Laws.Externs
namespace Go.Proofs.Ytpnehpkecfbneaa.G
open Go.RowKit
set_option linter.unusedVariables false
set_option linter.unusedSimpArgs false

set_option maxRecDepth 100000 in
theorem Kind_half (w : World) : Calls Try.prog 31 #[.float .f64 4602678819172646912] w fun e w' => e = .returned (.int .i64 5) ∧ w = w' := by
  have o0 : FloatKind.f64.format.order 4602678819172646912 4602678819172646912 = some .eq := by kernel_rfl
  have o1 : FloatKind.f64.format.order 13826050856027422720 9218868437227405311 = some .lt := by kernel_rfl
  have o2 : FloatKind.f64.format.order 4602678819172646912 0 = some .gt := by kernel_rfl
  have o3 : FloatKind.f64.format.order 4602678819172646912 9218868437227405311 = some .lt := by kernel_rfl
  have o4 : FloatKind.f64.format.order 4602678819172646912 4607182418800017408 = some .lt := by kernel_rfl
  have ng : ∀ W : World, (Op.unary .neg (.float .f64 4602678819172646912)).run Try.prog W = .ok (.float .f64 13826050856027422720) W := fun _ => by kernel_rfl
  have fb : ∀ W : World, (callFunc 30 #[.float .f64 4602678819172646912]).run Try.prog W = .ok (.value (.int .u64 4602678819172646912)) W := fun _ => by kernel_rfl
  have wm : wrap64 9223372036854775808 = -9223372036854775808 := by unfold wrap64; omega
  go_enter Try.func31, Try.ntmps31
  go_wp2
  go_ret
  exact ⟨rfl, rfl⟩

set_option maxRecDepth 100000 in
theorem Kind_nan (w : World) : Calls Try.prog 31 #[.float .f64 9221120237041090561] w fun e w' => e = .returned (.int .i64 0) ∧ w = w' := by
  have o0 : FloatKind.f64.format.order 9221120237041090561 9221120237041090561 = none := by kernel_rfl
  have o1 : FloatKind.f64.format.order 18444492273895866369 9218868437227405311 = none := by kernel_rfl
  have o2 : FloatKind.f64.format.order 9221120237041090561 0 = none := by kernel_rfl
  have o3 : FloatKind.f64.format.order 9221120237041090561 9218868437227405311 = none := by kernel_rfl
  have o4 : FloatKind.f64.format.order 9221120237041090561 4607182418800017408 = none := by kernel_rfl
  have ng : ∀ W : World, (Op.unary .neg (.float .f64 9221120237041090561)).run Try.prog W = .ok (.float .f64 18444492273895866369) W := fun _ => by kernel_rfl
  have fb : ∀ W : World, (callFunc 30 #[.float .f64 9221120237041090561]).run Try.prog W = .ok (.value (.int .u64 9221120237041090561)) W := fun _ => by kernel_rfl
  have wm : wrap64 9223372036854775808 = -9223372036854775808 := by unfold wrap64; omega
  go_enter Try.func31, Try.ntmps31
  go_wp2
  go_ret
  exact ⟨rfl, rfl⟩

set_option maxRecDepth 100000 in
theorem Kind_minus (w : World) : Calls Try.prog 31 #[.float .f64 9223372036854775808] w fun e w' => e = .returned (.int .i64 3) ∧ w = w' := by
  have o0 : FloatKind.f64.format.order 9223372036854775808 9223372036854775808 = some .eq := by kernel_rfl
  have o1 : FloatKind.f64.format.order 0 9218868437227405311 = some .lt := by kernel_rfl
  have o2 : FloatKind.f64.format.order 9223372036854775808 0 = some .eq := by kernel_rfl
  have o3 : FloatKind.f64.format.order 9223372036854775808 9218868437227405311 = some .lt := by kernel_rfl
  have o4 : FloatKind.f64.format.order 9223372036854775808 4607182418800017408 = some .lt := by kernel_rfl
  have ng : ∀ W : World, (Op.unary .neg (.float .f64 9223372036854775808)).run Try.prog W = .ok (.float .f64 0) W := fun _ => by kernel_rfl
  have fb : ∀ W : World, (callFunc 30 #[.float .f64 9223372036854775808]).run Try.prog W = .ok (.value (.int .u64 9223372036854775808)) W := fun _ => by kernel_rfl
  have wm : wrap64 9223372036854775808 = -9223372036854775808 := by unfold wrap64; omega
  go_enter Try.func31, Try.ntmps31
  go_wp2
  go_ret
  exact ⟨rfl, rfl⟩

set_option maxRecDepth 100000 in
theorem Share_half1 (w : World) : Calls Try.prog 26 #[.float .f64 4602678819172646912, .int .i64 1] w fun e w' => e = .returned (.tuple #[.int .i64 0, .int .i64 0]) ∧ w = w' := by
  have o5 : FloatKind.f64.format.order 4602678819172646912 4607182418800017408 = some .lt := by kernel_rfl
  have ci : floatOfInt .f64 1 = 4607182418800017408 := by kernel_rfl
  have mu : ∀ W : World, (binOp .mul 22 (.float .f64 4602678819172646912) (.float .f64 4607182418800017408)).run Try.prog W = .ok (.float .f64 4602678819172646912) W := fun W => run_float_arith W .mul _ .f64 _ _ _ (by kernel_rfl)
  have fl : ∀ W : World, (callFunc 37 #[.float .f64 4602678819172646912]).run Try.prog W = .ok (.value (.float .f64 0)) W := fun _ => by kernel_rfl
  have cv : ∀ W : World, (convert 22 3 (.float .f64 0)).run Try.prog W = .ok (.int .i64 0) W := fun W => run_convert_float_int W _ _ .f64 .i64 _ _ (by kernel_rfl) Try.underlying3 (by kernel_rfl)
  go_enter Try.func26, Try.ntmps26
  go_wp2_with (go_at_call 31; refine (Kind_half _).mono ?_; rintro e w1 ⟨rfl, rfl⟩)
  go_wp2
  go_ret2
  exact ⟨rfl, rfl⟩

set_option maxRecDepth 100000 in
theorem Share_nan1 (w : World) : Calls Try.prog 26 #[.float .f64 9221120237041090561, .int .i64 1] w fun e w' => e = .returned (.tuple #[.int .i64 0, .int .i64 1]) ∧ w = w' := by
  have o5 : FloatKind.f64.format.order 9221120237041090561 4607182418800017408 = none := by kernel_rfl
  go_enter Try.func26, Try.ntmps26
  go_wp2_with (go_at_call 31; refine (Kind_nan _).mono ?_; rintro e w1 ⟨rfl, rfl⟩)
  go_wp2
  go_ret2
  exact ⟨rfl, rfl⟩

set_option maxRecDepth 100000 in
theorem Share_minus1 (w : World) : Calls Try.prog 26 #[.float .f64 9223372036854775808, .int .i64 1] w fun e w' => e = .returned (.tuple #[.int .i64 0, .int .i64 0]) ∧ w = w' := by
  have o5 : FloatKind.f64.format.order 9223372036854775808 4607182418800017408 = some .lt := by kernel_rfl
  have ci : floatOfInt .f64 1 = 4607182418800017408 := by kernel_rfl
  have mu : ∀ W : World, (binOp .mul 22 (.float .f64 9223372036854775808) (.float .f64 4607182418800017408)).run Try.prog W = .ok (.float .f64 9223372036854775808) W := fun W => run_float_arith W .mul _ .f64 _ _ _ (by kernel_rfl)
  have fl : ∀ W : World, (callFunc 37 #[.float .f64 9223372036854775808]).run Try.prog W = .ok (.value (.float .f64 9223372036854775808)) W := fun _ => by kernel_rfl
  have cv : ∀ W : World, (convert 22 3 (.float .f64 9223372036854775808)).run Try.prog W = .ok (.int .i64 0) W := fun W => run_convert_float_int W _ _ .f64 .i64 _ _ (by kernel_rfl) Try.underlying3 (by kernel_rfl)
  go_enter Try.func26, Try.ntmps26
  go_wp2_with (go_at_call 31; refine (Kind_minus _).mono ?_; rintro e w1 ⟨rfl, rfl⟩)
  go_wp2
  go_ret2
  exact ⟨rfl, rfl⟩

set_option maxRecDepth 100000 in
theorem Share_half20 (w : World) : Calls Try.prog 26 #[.float .f64 4602678819172646912, .int .i64 20] w fun e w' => e = .returned (.tuple #[.int .i64 10, .int .i64 0]) ∧ w = w' := by
  have o5 : FloatKind.f64.format.order 4602678819172646912 4607182418800017408 = some .lt := by kernel_rfl
  have ci : floatOfInt .f64 20 = 4626322717216342016 := by kernel_rfl
  have mu : ∀ W : World, (binOp .mul 22 (.float .f64 4602678819172646912) (.float .f64 4626322717216342016)).run Try.prog W = .ok (.float .f64 4621819117588971520) W := fun W => run_float_arith W .mul _ .f64 _ _ _ (by kernel_rfl)
  have fl : ∀ W : World, (callFunc 37 #[.float .f64 4621819117588971520]).run Try.prog W = .ok (.value (.float .f64 4621819117588971520)) W := fun _ => by kernel_rfl
  have cv : ∀ W : World, (convert 22 3 (.float .f64 4621819117588971520)).run Try.prog W = .ok (.int .i64 10) W := fun W => run_convert_float_int W _ _ .f64 .i64 _ _ (by kernel_rfl) Try.underlying3 (by kernel_rfl)
  go_enter Try.func26, Try.ntmps26
  go_wp2_with (go_at_call 31; refine (Kind_half _).mono ?_; rintro e w1 ⟨rfl, rfl⟩)
  go_wp2
  go_ret2
  exact ⟨rfl, rfl⟩

set_option maxRecDepth 100000 in
theorem Share_minus20 (w : World) : Calls Try.prog 26 #[.float .f64 9223372036854775808, .int .i64 20] w fun e w' => e = .returned (.tuple #[.int .i64 0, .int .i64 0]) ∧ w = w' := by
  have o5 : FloatKind.f64.format.order 9223372036854775808 4607182418800017408 = some .lt := by kernel_rfl
  have ci : floatOfInt .f64 20 = 4626322717216342016 := by kernel_rfl
  have mu : ∀ W : World, (binOp .mul 22 (.float .f64 9223372036854775808) (.float .f64 4626322717216342016)).run Try.prog W = .ok (.float .f64 9223372036854775808) W := fun W => run_float_arith W .mul _ .f64 _ _ _ (by kernel_rfl)
  have fl : ∀ W : World, (callFunc 37 #[.float .f64 9223372036854775808]).run Try.prog W = .ok (.value (.float .f64 9223372036854775808)) W := fun _ => by kernel_rfl
  have cv : ∀ W : World, (convert 22 3 (.float .f64 9223372036854775808)).run Try.prog W = .ok (.int .i64 0) W := fun W => run_convert_float_int W _ _ .f64 .i64 _ _ (by kernel_rfl) Try.underlying3 (by kernel_rfl)
  go_enter Try.func26, Try.ntmps26
  go_wp2_with (go_at_call 31; refine (Kind_minus _).mono ?_; rintro e w1 ⟨rfl, rfl⟩)
  go_wp2
  go_ret2
  exact ⟨rfl, rfl⟩

end Go.Proofs.Ytpnehpkecfbneaa.G
