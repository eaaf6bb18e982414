/- Package ttl at the numbers that the fixed calls name. -/
import Derived.Test.YtgnmhepneahhdaaGMisc
import Derived.Test.YtgnmhepneahhdaaTadd
import Derived.WalkKit
import Derived.Laws.Rows
import Derived.Laws.FloatArith
import Derived.Laws.Externs
namespace Go.Proofs.Ytgnmhepneahhdaa.G
open Go.RowKit Go.Proofs.Ytgnmhepneahhdaa.WordPlain
set_option linter.unusedVariables false
set_option linter.unusedSimpArgs false

set_option maxRecDepth 100000 in
theorem Kind_n19 (w : World) : Calls Try.prog 14 #[.float .f64 4611235658464650854] w fun e w' => e = .returned (.int .i64 5) ∧ w = w' := by
  have o0 : FloatKind.f64.format.order 4611235658464650854 4611235658464650854 = some .eq := by kernel_rfl
  have o1 : FloatKind.f64.format.order 13834607695319426662 9218868437227405311 = some .lt := by kernel_rfl
  have o2 : FloatKind.f64.format.order 4611235658464650854 0 = some .gt := by kernel_rfl
  have o3 : FloatKind.f64.format.order 4611235658464650854 9218868437227405311 = some .lt := by kernel_rfl
  have ng : ∀ W : World, (Op.unary .neg (.float .f64 4611235658464650854)).run Try.prog W = .ok (.float .f64 13834607695319426662) W := fun _ => by kernel_rfl
  have fb : ∀ W : World, (callFunc 24 #[.float .f64 4611235658464650854]).run Try.prog W = .ok (.value (.int .u64 4611235658464650854)) W := fun _ => by kernel_rfl
  have wm : wrap64 4611235658464650854 = 4611235658464650854 := by unfold wrap64; omega
  go_enter Try.func14, Try.ntmps14
  go_wp2
  go_ret
  exact ⟨rfl, rfl⟩

set_option maxRecDepth 100000 in
theorem Kind_half (w : World) : Calls Try.prog 14 #[.float .f64 4602678819172646912] w fun e w' => e = .returned (.int .i64 5) ∧ w = w' := by
  have o0 : FloatKind.f64.format.order 4602678819172646912 4602678819172646912 = some .eq := by kernel_rfl
  have o1 : FloatKind.f64.format.order 13826050856027422720 9218868437227405311 = some .lt := by kernel_rfl
  have o2 : FloatKind.f64.format.order 4602678819172646912 0 = some .gt := by kernel_rfl
  have o3 : FloatKind.f64.format.order 4602678819172646912 9218868437227405311 = some .lt := by kernel_rfl
  have ng : ∀ W : World, (Op.unary .neg (.float .f64 4602678819172646912)).run Try.prog W = .ok (.float .f64 13826050856027422720) W := fun _ => by kernel_rfl
  have fb : ∀ W : World, (callFunc 24 #[.float .f64 4602678819172646912]).run Try.prog W = .ok (.value (.int .u64 4602678819172646912)) W := fun _ => by kernel_rfl
  have wm : wrap64 4602678819172646912 = 4602678819172646912 := by unfold wrap64; omega
  go_enter Try.func14, Try.ntmps14
  go_wp2
  go_ret
  exact ⟨rfl, rfl⟩

set_option maxRecDepth 100000 in
theorem Kind_inf (w : World) : Calls Try.prog 14 #[.float .f64 9218868437227405312] w fun e w' => e = .returned (.int .i64 6) ∧ w = w' := by
  have o0 : FloatKind.f64.format.order 9218868437227405312 9218868437227405312 = some .eq := by kernel_rfl
  have o1 : FloatKind.f64.format.order 18442240474082181120 9218868437227405311 = some .lt := by kernel_rfl
  have o2 : FloatKind.f64.format.order 9218868437227405312 0 = some .gt := by kernel_rfl
  have o3 : FloatKind.f64.format.order 9218868437227405312 9218868437227405311 = some .gt := by kernel_rfl
  have ng : ∀ W : World, (Op.unary .neg (.float .f64 9218868437227405312)).run Try.prog W = .ok (.float .f64 18442240474082181120) W := fun _ => by kernel_rfl
  have fb : ∀ W : World, (callFunc 24 #[.float .f64 9218868437227405312]).run Try.prog W = .ok (.value (.int .u64 9218868437227405312)) W := fun _ => by kernel_rfl
  have wm : wrap64 9218868437227405312 = 9218868437227405312 := by unfold wrap64; omega
  go_enter Try.func14, Try.ntmps14
  go_wp2
  go_ret
  exact ⟨rfl, rfl⟩

set_option maxRecDepth 100000 in
theorem Kind_nan (w : World) : Calls Try.prog 14 #[.float .f64 9221120237041090561] w fun e w' => e = .returned (.int .i64 0) ∧ w = w' := by
  have o0 : FloatKind.f64.format.order 9221120237041090561 9221120237041090561 = none := by kernel_rfl
  have o1 : FloatKind.f64.format.order 18444492273895866369 9218868437227405311 = none := by kernel_rfl
  have o2 : FloatKind.f64.format.order 9221120237041090561 0 = none := by kernel_rfl
  have o3 : FloatKind.f64.format.order 9221120237041090561 9218868437227405311 = none := by kernel_rfl
  have ng : ∀ W : World, (Op.unary .neg (.float .f64 9221120237041090561)).run Try.prog W = .ok (.float .f64 18444492273895866369) W := fun _ => by kernel_rfl
  have fb : ∀ W : World, (callFunc 24 #[.float .f64 9221120237041090561]).run Try.prog W = .ok (.value (.int .u64 9221120237041090561)) W := fun _ => by kernel_rfl
  have wm : wrap64 9221120237041090561 = 9221120237041090561 := by unfold wrap64; omega
  go_enter Try.func14, Try.ntmps14
  go_wp2
  go_ret
  exact ⟨rfl, rfl⟩

set_option maxRecDepth 100000 in
theorem Kind_minus (w : World) : Calls Try.prog 14 #[.float .f64 9223372036854775808] w fun e w' => e = .returned (.int .i64 3) ∧ w = w' := by
  have o0 : FloatKind.f64.format.order 9223372036854775808 9223372036854775808 = some .eq := by kernel_rfl
  have o1 : FloatKind.f64.format.order 0 9218868437227405311 = some .lt := by kernel_rfl
  have o2 : FloatKind.f64.format.order 9223372036854775808 0 = some .eq := by kernel_rfl
  have o3 : FloatKind.f64.format.order 9223372036854775808 9218868437227405311 = some .lt := by kernel_rfl
  have ng : ∀ W : World, (Op.unary .neg (.float .f64 9223372036854775808)).run Try.prog W = .ok (.float .f64 0) W := fun _ => by kernel_rfl
  have fb : ∀ W : World, (callFunc 24 #[.float .f64 9223372036854775808]).run Try.prog W = .ok (.value (.int .u64 9223372036854775808)) W := fun _ => by kernel_rfl
  have wm : wrap64 9223372036854775808 = -9223372036854775808 := by unfold wrap64; omega
  go_enter Try.func14, Try.ntmps14
  go_wp2
  go_ret
  exact ⟨rfl, rfl⟩

set_option maxRecDepth 100000 in
theorem Kind_big (w : World) : Calls Try.prog 14 #[.float .f64 4895412794951729152] w fun e w' => e = .returned (.int .i64 5) ∧ w = w' := by
  have o0 : FloatKind.f64.format.order 4895412794951729152 4895412794951729152 = some .eq := by kernel_rfl
  have o1 : FloatKind.f64.format.order 14118784831806504960 9218868437227405311 = some .lt := by kernel_rfl
  have o2 : FloatKind.f64.format.order 4895412794951729152 0 = some .gt := by kernel_rfl
  have o3 : FloatKind.f64.format.order 4895412794951729152 9218868437227405311 = some .lt := by kernel_rfl
  have ng : ∀ W : World, (Op.unary .neg (.float .f64 4895412794951729152)).run Try.prog W = .ok (.float .f64 14118784831806504960) W := fun _ => by kernel_rfl
  have fb : ∀ W : World, (callFunc 24 #[.float .f64 4895412794951729152]).run Try.prog W = .ok (.value (.int .u64 4895412794951729152)) W := fun _ => by kernel_rfl
  have wm : wrap64 4895412794951729152 = 4895412794951729152 := by unfold wrap64; omega
  go_enter Try.func14, Try.ntmps14
  go_wp2
  go_ret
  exact ⟨rfl, rfl⟩

set_option maxRecDepth 100000 in
theorem Kind_ninf (w : World) : Calls Try.prog 14 #[.float .f64 18442240474082181120] w fun e w' => e = .returned (.int .i64 1) ∧ w = w' := by
  have o0 : FloatKind.f64.format.order 18442240474082181120 18442240474082181120 = some .eq := by kernel_rfl
  have o1 : FloatKind.f64.format.order 9218868437227405312 9218868437227405311 = some .gt := by kernel_rfl
  have o2 : FloatKind.f64.format.order 18442240474082181120 0 = some .lt := by kernel_rfl
  have o3 : FloatKind.f64.format.order 18442240474082181120 9218868437227405311 = some .lt := by kernel_rfl
  have ng : ∀ W : World, (Op.unary .neg (.float .f64 18442240474082181120)).run Try.prog W = .ok (.float .f64 9218868437227405312) W := fun _ => by kernel_rfl
  have fb : ∀ W : World, (callFunc 24 #[.float .f64 18442240474082181120]).run Try.prog W = .ok (.value (.int .u64 18442240474082181120)) W := fun _ => by kernel_rfl
  have wm : wrap64 18442240474082181120 = -4503599627370496 := by unfold wrap64; omega
  go_enter Try.func14, Try.ntmps14
  go_wp2
  go_ret
  exact ⟨rfl, rfl⟩

set_option maxRecDepth 100000 in
theorem Kind_m2 (w : World) : Calls Try.prog 14 #[.float .f64 13835058055282163712] w fun e w' => e = .returned (.int .i64 2) ∧ w = w' := by
  have o0 : FloatKind.f64.format.order 13835058055282163712 13835058055282163712 = some .eq := by kernel_rfl
  have o1 : FloatKind.f64.format.order 4611686018427387904 9218868437227405311 = some .lt := by kernel_rfl
  have o2 : FloatKind.f64.format.order 13835058055282163712 0 = some .lt := by kernel_rfl
  have o3 : FloatKind.f64.format.order 13835058055282163712 9218868437227405311 = some .lt := by kernel_rfl
  have ng : ∀ W : World, (Op.unary .neg (.float .f64 13835058055282163712)).run Try.prog W = .ok (.float .f64 4611686018427387904) W := fun _ => by kernel_rfl
  have fb : ∀ W : World, (callFunc 24 #[.float .f64 13835058055282163712]).run Try.prog W = .ok (.value (.int .u64 13835058055282163712)) W := fun _ => by kernel_rfl
  have wm : wrap64 13835058055282163712 = -4611686018427387904 := by unfold wrap64; omega
  go_enter Try.func14, Try.ntmps14
  go_wp2
  go_ret
  exact ⟨rfl, rfl⟩

set_option maxRecDepth 100000 in
theorem Kind_zero (w : World) : Calls Try.prog 14 #[.float .f64 0] w fun e w' => e = .returned (.int .i64 4) ∧ w = w' := by
  have o0 : FloatKind.f64.format.order 0 0 = some .eq := by kernel_rfl
  have o1 : FloatKind.f64.format.order 9223372036854775808 9218868437227405311 = some .lt := by kernel_rfl
  have o3 : FloatKind.f64.format.order 0 9218868437227405311 = some .lt := by kernel_rfl
  have ng : ∀ W : World, (Op.unary .neg (.float .f64 0)).run Try.prog W = .ok (.float .f64 9223372036854775808) W := fun _ => by kernel_rfl
  have fb : ∀ W : World, (callFunc 24 #[.float .f64 0]).run Try.prog W = .ok (.value (.int .u64 0)) W := fun _ => by kernel_rfl
  have wm : wrap64 0 = 0 := by unfold wrap64; omega
  go_enter Try.func14, Try.ntmps14
  go_wp2
  go_ret
  exact ⟨rfl, rfl⟩

set_option maxRecDepth 100000 in
theorem Kind_two (w : World) : Calls Try.prog 14 #[.float .f64 4611686018427387904] w fun e w' => e = .returned (.int .i64 5) ∧ w = w' := by
  have o0 : FloatKind.f64.format.order 4611686018427387904 4611686018427387904 = some .eq := by kernel_rfl
  have o1 : FloatKind.f64.format.order 13835058055282163712 9218868437227405311 = some .lt := by kernel_rfl
  have o2 : FloatKind.f64.format.order 4611686018427387904 0 = some .gt := by kernel_rfl
  have o3 : FloatKind.f64.format.order 4611686018427387904 9218868437227405311 = some .lt := by kernel_rfl
  have ng : ∀ W : World, (Op.unary .neg (.float .f64 4611686018427387904)).run Try.prog W = .ok (.float .f64 13835058055282163712) W := fun _ => by kernel_rfl
  have fb : ∀ W : World, (callFunc 24 #[.float .f64 4611686018427387904]).run Try.prog W = .ok (.value (.int .u64 4611686018427387904)) W := fun _ => by kernel_rfl
  have wm : wrap64 4611686018427387904 = 4611686018427387904 := by unfold wrap64; omega
  go_enter Try.func14, Try.ntmps14
  go_wp2
  go_ret
  exact ⟨rfl, rfl⟩

set_option maxRecDepth 100000 in
theorem Kind_n15 (w : World) : Calls Try.prog 14 #[.float .f64 4609434218613702656] w fun e w' => e = .returned (.int .i64 5) ∧ w = w' := by
  have o0 : FloatKind.f64.format.order 4609434218613702656 4609434218613702656 = some .eq := by kernel_rfl
  have o1 : FloatKind.f64.format.order 13832806255468478464 9218868437227405311 = some .lt := by kernel_rfl
  have o2 : FloatKind.f64.format.order 4609434218613702656 0 = some .gt := by kernel_rfl
  have o3 : FloatKind.f64.format.order 4609434218613702656 9218868437227405311 = some .lt := by kernel_rfl
  have ng : ∀ W : World, (Op.unary .neg (.float .f64 4609434218613702656)).run Try.prog W = .ok (.float .f64 13832806255468478464) W := fun _ => by kernel_rfl
  have fb : ∀ W : World, (callFunc 24 #[.float .f64 4609434218613702656]).run Try.prog W = .ok (.value (.int .u64 4609434218613702656)) W := fun _ => by kernel_rfl
  have wm : wrap64 4609434218613702656 = 4609434218613702656 := by unfold wrap64; omega
  go_enter Try.func14, Try.ntmps14
  go_wp2
  go_ret
  exact ⟨rfl, rfl⟩

set_option maxRecDepth 100000 in
theorem Ticks_n19 (w : World) : Calls Try.prog 10 #[.float .f64 4611235658464650854] w fun e w' => e = .returned (.tuple #[.int .u64 1, .int .i64 0]) ∧ w = w' := by
  have o0 : FloatKind.f64.format.order 4611235658464650854 4607182418800017408 = some .gt := by kernel_rfl
  have o1 : FloatKind.f64.format.order 4611235658464650854 4895412794951729152 = some .lt := by kernel_rfl
  have fl : ∀ W : World, (callFunc 35 #[.float .f64 4611235658464650854]).run Try.prog W = .ok (.value (.float .f64 4607182418800017408)) W := fun _ => by kernel_rfl
  have cv : ∀ W : World, (convert 22 23 (.float .f64 4607182418800017408)).run Try.prog W = .ok (.int .u64 1) W := fun W => run_convert_float_int W _ _ .f64 .u64 _ _ (by kernel_rfl) Try.underlying23 (by kernel_rfl)
  go_enter Try.func10, Try.ntmps10
  go_wp2_with (go_at_call 14; refine (Kind_n19 _).mono ?_; rintro e w1 ⟨rfl, rfl⟩)
  go_wp2
  go_ret2
  exact ⟨rfl, rfl⟩

set_option maxRecDepth 100000 in
theorem Ticks_half (w : World) : Calls Try.prog 10 #[.float .f64 4602678819172646912] w fun e w' => e = .returned (.tuple #[.int .u64 0, .int .i64 1]) ∧ w = w' := by
  have o0 : FloatKind.f64.format.order 4602678819172646912 4607182418800017408 = some .lt := by kernel_rfl
  have o1 : FloatKind.f64.format.order 4602678819172646912 4895412794951729152 = some .lt := by kernel_rfl
  go_enter Try.func10, Try.ntmps10
  go_wp2_with (go_at_call 14; refine (Kind_half _).mono ?_; rintro e w1 ⟨rfl, rfl⟩)
  go_wp2
  go_ret2
  exact ⟨rfl, rfl⟩

set_option maxRecDepth 100000 in
theorem Ticks_inf (w : World) : Calls Try.prog 10 #[.float .f64 9218868437227405312] w fun e w' => e = .returned (.tuple #[.int .u64 18446744073709551615, .int .i64 0]) ∧ w = w' := by
  have o0 : FloatKind.f64.format.order 9218868437227405312 4607182418800017408 = some .gt := by kernel_rfl
  have o1 : FloatKind.f64.format.order 9218868437227405312 4895412794951729152 = some .gt := by kernel_rfl
  go_enter Try.func10, Try.ntmps10
  go_wp2_with (go_at_call 14; refine (Kind_inf _).mono ?_; rintro e w1 ⟨rfl, rfl⟩)
  go_wp2
  go_ret2
  exact ⟨rfl, rfl⟩

set_option maxRecDepth 100000 in
theorem Ticks_nan (w : World) : Calls Try.prog 10 #[.float .f64 9221120237041090561] w fun e w' => e = .returned (.tuple #[.int .u64 0, .int .i64 1]) ∧ w = w' := by
  have o0 : FloatKind.f64.format.order 9221120237041090561 4607182418800017408 = none := by kernel_rfl
  have o1 : FloatKind.f64.format.order 9221120237041090561 4895412794951729152 = none := by kernel_rfl
  go_enter Try.func10, Try.ntmps10
  go_wp2_with (go_at_call 14; refine (Kind_nan _).mono ?_; rintro e w1 ⟨rfl, rfl⟩)
  go_wp2
  go_ret2
  exact ⟨rfl, rfl⟩

set_option maxRecDepth 100000 in
theorem Ticks_minus (w : World) : Calls Try.prog 10 #[.float .f64 9223372036854775808] w fun e w' => e = .returned (.tuple #[.int .u64 0, .int .i64 1]) ∧ w = w' := by
  have o0 : FloatKind.f64.format.order 9223372036854775808 4607182418800017408 = some .lt := by kernel_rfl
  have o1 : FloatKind.f64.format.order 9223372036854775808 4895412794951729152 = some .lt := by kernel_rfl
  go_enter Try.func10, Try.ntmps10
  go_wp2_with (go_at_call 14; refine (Kind_minus _).mono ?_; rintro e w1 ⟨rfl, rfl⟩)
  go_wp2
  go_ret2
  exact ⟨rfl, rfl⟩

set_option maxRecDepth 100000 in
theorem Ticks_big (w : World) : Calls Try.prog 10 #[.float .f64 4895412794951729152] w fun e w' => e = .returned (.tuple #[.int .u64 18446744073709551615, .int .i64 0]) ∧ w = w' := by
  have o0 : FloatKind.f64.format.order 4895412794951729152 4607182418800017408 = some .gt := by kernel_rfl
  have o1 : FloatKind.f64.format.order 4895412794951729152 4895412794951729152 = some .eq := by kernel_rfl
  go_enter Try.func10, Try.ntmps10
  go_wp2_with (go_at_call 14; refine (Kind_big _).mono ?_; rintro e w1 ⟨rfl, rfl⟩)
  go_wp2
  go_ret2
  exact ⟨rfl, rfl⟩

set_option maxRecDepth 100000 in
theorem Share_half9 (w : World) : Calls Try.prog 12 #[.float .f64 4602678819172646912, .int .i64 9] w fun e w' => e = .returned (.tuple #[.int .i64 4, .int .i64 0]) ∧ w = w' := by
  have o5 : FloatKind.f64.format.order 4602678819172646912 4607182418800017408 = some .lt := by kernel_rfl
  have ci : floatOfInt .f64 9 = 4621256167635550208 := by kernel_rfl
  have mu : ∀ W : World, (binOp .mul 22 (.float .f64 4602678819172646912) (.float .f64 4621256167635550208)).run Try.prog W = .ok (.float .f64 4616752568008179712) W := fun W => run_float_arith W .mul _ .f64 _ _ _ (by kernel_rfl)
  have fl : ∀ W : World, (callFunc 35 #[.float .f64 4616752568008179712]).run Try.prog W = .ok (.value (.float .f64 4616189618054758400)) W := fun _ => by kernel_rfl
  have cv : ∀ W : World, (convert 22 3 (.float .f64 4616189618054758400)).run Try.prog W = .ok (.int .i64 4) W := fun W => run_convert_float_int W _ _ .f64 .i64 _ _ (by kernel_rfl) Try.underlying3 (by kernel_rfl)
  go_enter Try.func12, Try.ntmps12
  go_wp2_with (go_at_call 14; refine (Kind_half _).mono ?_; rintro e w1 ⟨rfl, rfl⟩)
  go_wp2
  go_ret2
  exact ⟨rfl, rfl⟩

set_option maxRecDepth 100000 in
theorem Share_minus9 (w : World) : Calls Try.prog 12 #[.float .f64 9223372036854775808, .int .i64 9] w fun e w' => e = .returned (.tuple #[.int .i64 0, .int .i64 0]) ∧ w = w' := by
  have o5 : FloatKind.f64.format.order 9223372036854775808 4607182418800017408 = some .lt := by kernel_rfl
  have ci : floatOfInt .f64 9 = 4621256167635550208 := by kernel_rfl
  have mu : ∀ W : World, (binOp .mul 22 (.float .f64 9223372036854775808) (.float .f64 4621256167635550208)).run Try.prog W = .ok (.float .f64 9223372036854775808) W := fun W => run_float_arith W .mul _ .f64 _ _ _ (by kernel_rfl)
  have fl : ∀ W : World, (callFunc 35 #[.float .f64 9223372036854775808]).run Try.prog W = .ok (.value (.float .f64 9223372036854775808)) W := fun _ => by kernel_rfl
  have cv : ∀ W : World, (convert 22 3 (.float .f64 9223372036854775808)).run Try.prog W = .ok (.int .i64 0) W := fun W => run_convert_float_int W _ _ .f64 .i64 _ _ (by kernel_rfl) Try.underlying3 (by kernel_rfl)
  go_enter Try.func12, Try.ntmps12
  go_wp2_with (go_at_call 14; refine (Kind_minus _).mono ?_; rintro e w1 ⟨rfl, rfl⟩)
  go_wp2
  go_ret2
  exact ⟨rfl, rfl⟩

set_option maxRecDepth 100000 in
theorem Share_nan9 (w : World) : Calls Try.prog 12 #[.float .f64 9221120237041090561, .int .i64 9] w fun e w' => e = .returned (.tuple #[.int .i64 0, .int .i64 1]) ∧ w = w' := by
  have o5 : FloatKind.f64.format.order 9221120237041090561 4607182418800017408 = none := by kernel_rfl
  go_enter Try.func12, Try.ntmps12
  go_wp2_with (go_at_call 14; refine (Kind_nan _).mono ?_; rintro e w1 ⟨rfl, rfl⟩)
  go_wp2
  go_ret2
  exact ⟨rfl, rfl⟩

set_option maxRecDepth 100000 in
theorem Share_n159 (w : World) : Calls Try.prog 12 #[.float .f64 4609434218613702656, .int .i64 9] w fun e w' => e = .returned (.tuple #[.int .i64 0, .int .i64 1]) ∧ w = w' := by
  have o5 : FloatKind.f64.format.order 4609434218613702656 4607182418800017408 = some .gt := by kernel_rfl
  go_enter Try.func12, Try.ntmps12
  go_wp2_with (go_at_call 14; refine (Kind_n15 _).mono ?_; rintro e w1 ⟨rfl, rfl⟩)
  go_wp2
  go_ret2
  exact ⟨rfl, rfl⟩

set_option maxRecDepth 100000 in
theorem Share_half100001 (w : World) : Calls Try.prog 12 #[.float .f64 4602678819172646912, .int .i64 100001] w fun e w' => e = .returned (.tuple #[.int .i64 0, .int .i64 1]) ∧ w = w' := by
  have o5 : FloatKind.f64.format.order 4602678819172646912 4607182418800017408 = some .lt := by kernel_rfl
  go_enter Try.func12, Try.ntmps12
  go_wp2_with (go_at_call 14; refine (Kind_half _).mono ?_; rintro e w1 ⟨rfl, rfl⟩)
  go_wp2
  go_ret2
  exact ⟨rfl, rfl⟩

set_option maxRecDepth 100000 in
theorem Least_nan (w : World) : Calls Try.prog 17 #[.float .f64 9221120237041090561, .float .f64 4613937818241073152] w fun e w' => e = .returned (.float .f64 4613937818241073152) ∧ w = w' := by
  have o5 : FloatKind.f64.format.order 4613937818241073152 9221120237041090561 = none := by kernel_rfl
  go_enter Try.func17, Try.ntmps17
  go_wp2_with (go_at_call 14; refine (Kind_nan _).mono ?_; rintro e w1 ⟨rfl, rfl⟩)
  go_wp2
  go_ret
  exact ⟨rfl, rfl⟩

set_option maxRecDepth 100000 in
theorem Least_two (w : World) : Calls Try.prog 17 #[.float .f64 4611686018427387904, .float .f64 4613937818241073152] w fun e w' => e = .returned (.float .f64 4611686018427387904) ∧ w = w' := by
  have o5 : FloatKind.f64.format.order 4613937818241073152 4611686018427387904 = some .gt := by kernel_rfl
  go_enter Try.func17, Try.ntmps17
  go_wp2_with (go_at_call 14; refine (Kind_two _).mono ?_; rintro e w1 ⟨rfl, rfl⟩)
  go_wp2
  go_ret
  exact ⟨rfl, rfl⟩

set_option maxRecDepth 100000 in
theorem Later_val (a b c : Nat) (w : World) (ha : a < 18446744073709551616) (hb : b < 18446744073709551616) (hc : Hid (c = addV a b)) :
    Calls Try.prog 19 #[.int .u64 a, .int .u64 b] w fun e w' => e = .returned (.int .u64 c) ∧ w = w' := by
  have h := fun W => Add_val a b c (addO a b) W ha hb hc (Lib.hid rfl)
  have H := Lib.hid h
  clear h
  go_enter Try.func19, Try.ntmps19
  go_wp2_with fail
  refine (H.out _).mono ?_; rintro e w1 ⟨rfl, rfl⟩
  go_wp2_with fail
  go_ret
  exact ⟨rfl, rfl⟩

set_option maxRecDepth 100000 in
theorem none_val (w : World) : Calls Try.prog 33 #[] w fun e w' => e = .returned (.float .f64 9221120237041090561) ∧ w = w' := by
  have x1 : ∀ W : World, (callFunc 22 #[.int .u64 9221120237041090561]).run Try.prog W = .ok (.value (.float .f64 9221120237041090561)) W := fun _ => by kernel_rfl
  go_enter Try.func33, Try.ntmps33
  go_wp2_with fail
  go_ret
  exact ⟨rfl, rfl⟩

set_option maxRecDepth 100000 in
theorem minus_val (w : World) : Calls Try.prog 34 #[] w fun e w' => e = .returned (.float .f64 9223372036854775808) ∧ w = w' := by
  have x1 : ∀ W : World, (callFunc 22 #[.int .u64 9223372036854775808]).run Try.prog W = .ok (.value (.float .f64 9223372036854775808)) W := fun _ => by kernel_rfl
  go_enter Try.func34, Try.ntmps34
  go_wp2_with fail
  go_ret
  exact ⟨rfl, rfl⟩

set_option maxRecDepth 100000 in
theorem Inf_val (w : World) : Calls Try.prog 32 #[.int .i64 1] w fun e w' => e = .returned (.float .f64 9218868437227405312) ∧ w = w' := by
  have x1 : ∀ W : World, (callFunc 22 #[.int .u64 9218868437227405312]).run Try.prog W = .ok (.value (.float .f64 9218868437227405312)) W := fun _ => by kernel_rfl
  go_enter Try.func32, Try.ntmps32
  go_wp2_with fail
  go_ret
  exact ⟨rfl, rfl⟩

set_option maxRecDepth 100000 in
theorem NInf_val (w : World) : Calls Try.prog 32 #[.int .i64 (-1)] w fun e w' => e = .returned (.float .f64 18442240474082181120) ∧ w = w' := by
  have x1 : ∀ W : World, (callFunc 22 #[.int .u64 18442240474082181120]).run Try.prog W = .ok (.value (.float .f64 18442240474082181120)) W := fun _ => by kernel_rfl
  go_enter Try.func32, Try.ntmps32
  go_wp2_with fail
  go_ret
  exact ⟨rfl, rfl⟩

set_option maxRecDepth 100000 in
theorem Max_val (w : World) : Calls Try.prog 23 #[] w fun e w' => e = .returned (.int .u64 18446744073709551615) ∧ w = w' := by
  go_enter Try.func23, Try.ntmps23
  go_wp2_with fail
  go_ret
  exact ⟨rfl, rfl⟩

set_option maxRecDepth 100000 in
set_option maxHeartbeats 4000000 in
theorem fixed_val (w : World) : Calls Try.prog 21 #[] w fun e w' => e = .returned (.bool true) ∧ w = w' := by
  have x1 : ∀ W : World, (callFunc 22 #[.int .u64 9221120237041090561]).run Try.prog W = .ok (.value (.float .f64 9221120237041090561)) W := fun _ => by kernel_rfl
  have x2 : ∀ W : World, (callFunc 22 #[.int .u64 9223372036854775808]).run Try.prog W = .ok (.value (.float .f64 9223372036854775808)) W := fun _ => by kernel_rfl
  have x3 : ∀ W : World, (callFunc 22 #[.int .u64 9218868437227405312]).run Try.prog W = .ok (.value (.float .f64 9218868437227405312)) W := fun _ => by kernel_rfl
  have x4 : ∀ W : World, (callFunc 22 #[.int .u64 18442240474082181120]).run Try.prog W = .ok (.value (.float .f64 18442240474082181120)) W := fun _ => by kernel_rfl
  have o1 : FloatKind.f64.format.order 4613937818241073152 4613937818241073152 = some .eq := by kernel_rfl
  have o2 : FloatKind.f64.format.order 4611686018427387904 4611686018427387904 = some .eq := by kernel_rfl
  have L1 := Lib.hid (fun W => Later_val 18446744073709551614 5 18446744073709551615 W (by omega) (by omega) (Lib.hid (by decide)))
  have L2 := Lib.hid (fun W => Later_val 3 4 7 W (by omega) (by omega) (Lib.hid (by decide)))
  have N0 := Lib.hid none_val
  have M0 := Lib.hid minus_val
  have P0 := Lib.hid (fun W => Inf_val W)
  have P1 := Lib.hid (fun W => NInf_val W)
  have MX := Lib.hid (fun W => Max_val W)
  clear x1 x2 x3 x4
  go_enter Try.func21, Try.ntmps21
  go_wp2_with fail
  refine (Ticks_n19 _).mono ?_; rintro e w1 ⟨rfl, rfl⟩
  go_wp2_with fail
  refine (Ticks_half _).mono ?_; rintro e w1 ⟨rfl, rfl⟩
  go_wp2_with fail
  refine (P0.out _).mono ?_; rintro e w1 ⟨rfl, rfl⟩
  go_wp2_with fail
  refine (Ticks_inf _).mono ?_; rintro e w1 ⟨rfl, rfl⟩
  go_wp2_with fail
  refine (N0.out _).mono ?_; rintro e w1 ⟨rfl, rfl⟩
  go_wp2_with fail
  refine (Ticks_nan _).mono ?_; rintro e w1 ⟨rfl, rfl⟩
  go_wp2_with fail
  refine (M0.out _).mono ?_; rintro e w1 ⟨rfl, rfl⟩
  go_wp2_with fail
  refine (Ticks_minus _).mono ?_; rintro e w1 ⟨rfl, rfl⟩
  go_wp2_with fail
  refine (Ticks_big _).mono ?_; rintro e w1 ⟨rfl, rfl⟩
  go_wp2_with fail
  refine (Share_half9 _).mono ?_; rintro e w1 ⟨rfl, rfl⟩
  go_wp2_with fail
  refine (M0.out _).mono ?_; rintro e w1 ⟨rfl, rfl⟩
  go_wp2_with fail
  refine (Share_minus9 _).mono ?_; rintro e w1 ⟨rfl, rfl⟩
  go_wp2_with fail
  refine (N0.out _).mono ?_; rintro e w1 ⟨rfl, rfl⟩
  go_wp2_with fail
  refine (Share_nan9 _).mono ?_; rintro e w1 ⟨rfl, rfl⟩
  go_wp2_with fail
  refine (Share_n159 _).mono ?_; rintro e w1 ⟨rfl, rfl⟩
  go_wp2_with fail
  refine (Share_half100001 _).mono ?_; rintro e w1 ⟨rfl, rfl⟩
  go_wp2_with fail
  refine (MX.out _).mono ?_; rintro e w1 ⟨rfl, rfl⟩
  go_wp2_with fail
  refine (MX.out _).mono ?_; rintro e w1 ⟨rfl, rfl⟩
  go_wp2_with fail
  refine (N0.out _).mono ?_; rintro e w1 ⟨rfl, rfl⟩
  go_wp2_with fail
  refine (Kind_nan _).mono ?_; rintro e w1 ⟨rfl, rfl⟩
  go_wp2_with fail
  refine (P1.out _).mono ?_; rintro e w1 ⟨rfl, rfl⟩
  go_wp2_with fail
  refine (Kind_ninf _).mono ?_; rintro e w1 ⟨rfl, rfl⟩
  go_wp2_with fail
  refine (Kind_m2 _).mono ?_; rintro e w1 ⟨rfl, rfl⟩
  go_wp2_with fail
  refine (M0.out _).mono ?_; rintro e w1 ⟨rfl, rfl⟩
  go_wp2_with fail
  refine (Kind_minus _).mono ?_; rintro e w1 ⟨rfl, rfl⟩
  go_wp2_with fail
  refine (Kind_zero _).mono ?_; rintro e w1 ⟨rfl, rfl⟩
  go_wp2_with fail
  refine (Kind_two _).mono ?_; rintro e w1 ⟨rfl, rfl⟩
  go_wp2_with fail
  refine (P0.out _).mono ?_; rintro e w1 ⟨rfl, rfl⟩
  go_wp2_with fail
  refine (Kind_inf _).mono ?_; rintro e w1 ⟨rfl, rfl⟩
  go_wp2_with fail
  refine (MX.out _).mono ?_; rintro e w1 ⟨rfl, rfl⟩
  go_wp2_with fail
  refine (L1.out _).mono ?_; rintro e w1 ⟨rfl, rfl⟩
  go_wp2_with fail
  refine (MX.out _).mono ?_; rintro e w1 ⟨rfl, rfl⟩
  go_wp2_with fail
  refine (L2.out _).mono ?_; rintro e w1 ⟨rfl, rfl⟩
  go_wp2_with fail
  refine (N0.out _).mono ?_; rintro e w1 ⟨rfl, rfl⟩
  go_wp2_with fail
  refine (Least_nan _).mono ?_; rintro e w1 ⟨rfl, rfl⟩
  go_wp2_with fail
  refine (Least_two _).mono ?_; rintro e w1 ⟨rfl, rfl⟩
  go_wp2_with fail
  go_ret
  exact ⟨rfl, rfl⟩
end Go.Proofs.Ytgnmhepneahhdaa.G
