/- Ticks and shares of any number, by bits: the program's and the document's. -/
import Derived.Test.YtpnehpkecfbneaaFt
namespace Go.Proofs.Ytpnehpkecfbneaa.G
open Go.RowKit
set_option linter.unusedVariables false
set_option linter.unusedSimpArgs false

abbrev KindC (f : Nat) (x : Nat) (k : Int) : Prop := Hid (∀ w, Calls Try.prog f #[.float .f64 x] w fun e w' => e = .returned (.int .i64 k) ∧ w = w')
/-- how a number that is none below the sign stands to another one -/
theorem ord3 (x c : Nat) (hx : x ≤ 9218868437227405312) (hc : c ≤ 9218868437227405312) : FloatKind.f64.format.order x c = if x < c then some .lt else if x = c then some .eq else some .gt := by
  have h : FloatKind.f64.format.order x c = some (compare (F.key x) (F.key c)) := F.order_key x c (by omega) (by omega) (by omega) (by omega)
  have k1 : F.key x = x := by unfold F.key; rw [if_pos (by omega)]
  have k2 : F.key c = c := by unfold F.key; rw [if_pos (by omega)]
  rw [h, k1, k2, F.cmp_eq]
  by_cases h1 : x < c
  · rw [if_pos h1, if_pos (by omega)]
  · rw [if_neg h1, if_neg (by omega)]
    by_cases h2 : x = c
    · rw [if_pos h2, if_pos (by omega)]
    · rw [if_neg h2, if_neg (by omega)]
theorem o_lt (x c : Nat) (hx : x ≤ 9218868437227405312) (hc : c ≤ 9218868437227405312) (h : x < c) : FloatKind.f64.format.order x c = some .lt := by rw [ord3 x c hx hc, if_pos h]
theorem o_eq (x c : Nat) (hx : x ≤ 9218868437227405312) (hc : c ≤ 9218868437227405312) (h : x = c) : FloatKind.f64.format.order x c = some .eq := by rw [ord3 x c hx hc, if_neg (by omega), if_pos h]
theorem o_gt (x c : Nat) (hx : x ≤ 9218868437227405312) (hc : c ≤ 9218868437227405312) (h : c < x) : FloatKind.f64.format.order x c = some .gt := by rw [ord3 x c hx hc, if_neg (by omega), if_neg (by omega)]
theorem floorr (x : Nat) (hx : x < 9218868437227405312) (W : World) : (callFunc 37 #[.float .f64 x]).run Try.prog W = .ok (.value (.float .f64 (F.flb x))) W := by
  rw [run_callFunc_extern Try.func37 (by kernel_rfl) (by kernel_rfl) (by kernel_rfl) (e := Extern.MathFloor.toIntegral "math.archFloor" .down) (by kernel_rfl)]
  obtain ⟨k, q, _, _, _, _, _, h2, _⟩ := F.read_num x hx
  have h4 : FloatKind.f64.decode x = .number false q (-1074 + (k : Int)) := h2
  have h5 := F.floor_num x hx
  rw [h2] at h5
  have h6 : FloatKind.f64.encode ((Ieee.Datum.number false q (-1074 + (k : Int))).integral .down) = F.flb x := h5
  show (Sem.run _ (Extern.MathFloor.toIntegral.match_1 (fun _ => Sem Value) (FloatKind.f64.decode x) _ _) W).andThen _ = _
  rw [h4]
  rw [← h6]
  rfl
theorem floorm (W : World) : (callFunc 37 #[.float .f64 9223372036854775808]).run Try.prog W = .ok (.value (.float .f64 9223372036854775808)) W := by
  rw [run_callFunc_extern Try.func37 (by kernel_rfl) (by kernel_rfl) (by kernel_rfl) (e := Extern.MathFloor.toIntegral "math.archFloor" .down) (by kernel_rfl)]
  kernel_rfl
theorem fti (k : IntKind) (x : Nat) (hx : x < 9218868437227405312) (h1 : k.min ≤ (F.fl x : Int)) (h2 : (F.fl x : Int) ≤ k.max) : floatToIntVal .f64 (F.flb x) k = some (F.fl x : Int) := by
  have hb := F.flb_num x hx
  have : (FloatKind.f64.decode (F.flb x)).toInt .zero = some (F.fl x : Int) := by
    have := F.toInt_num _ hb.1
    rw [hb.2] at this
    exact this
  unfold floatToIntVal
  rw [this]
  simp only [h1, h2, and_self, if_true]

set_option maxRecDepth 100000 in
theorem share_a (x : Nat) (n : Int) (k : Int) (w : World) (q : decide (k < 3) = true) (hk : KindC 31 x k) :
    Calls Try.prog 26 #[.float .f64 x, .int .i64 n] w fun e w' => e = .returned (.tuple #[.int .i64 0, .int .i64 1]) ∧ w = w' := by
  go_enter Try.func26, Try.ntmps26
  go_wp2_with fail
  refine (hk.out _).mono ?_; rintro e w1 ⟨rfl, rfl⟩
  go_wp2
  go_ret2
  exact ⟨rfl, rfl⟩
set_option maxRecDepth 100000 in
theorem share_b (x : Nat) (n : Int) (k : Int) (w : World) (q : decide (k < 3) = false) (og : (FloatKind.f64.format.order x 4607182418800017408 == some .gt) = true) (hk : KindC 31 x k) :
    Calls Try.prog 26 #[.float .f64 x, .int .i64 n] w fun e w' => e = .returned (.tuple #[.int .i64 0, .int .i64 1]) ∧ w = w' := by
  go_enter Try.func26, Try.ntmps26
  go_wp2_with fail
  refine (hk.out _).mono ?_; rintro e w1 ⟨rfl, rfl⟩
  go_wp2
  go_ret2
  exact ⟨rfl, rfl⟩
set_option maxRecDepth 100000 in
theorem share_c (x : Nat) (n : Int) (k : Int) (w : World) (q : decide (k < 3) = false) (og : (FloatKind.f64.format.order x 4607182418800017408 == some .gt) = false) (h1 : n < 0) (hk : KindC 31 x k) :
    Calls Try.prog 26 #[.float .f64 x, .int .i64 n] w fun e w' => e = .returned (.tuple #[.int .i64 0, .int .i64 1]) ∧ w = w' := by
  go_enter Try.func26, Try.ntmps26
  go_wp2_with fail
  refine (hk.out _).mono ?_; rintro e w1 ⟨rfl, rfl⟩
  go_wp2
  go_ret2
  exact ⟨rfl, rfl⟩
set_option maxRecDepth 100000 in
theorem share_d (x : Nat) (n : Int) (k : Int) (w : World) (q : decide (k < 3) = false) (og : (FloatKind.f64.format.order x 4607182418800017408 == some .gt) = false) (h1 : 0 ≤ n) (h2 : 100000 < n) (hk : KindC 31 x k) :
    Calls Try.prog 26 #[.float .f64 x, .int .i64 n] w fun e w' => e = .returned (.tuple #[.int .i64 0, .int .i64 1]) ∧ w = w' := by
  go_enter Try.func26, Try.ntmps26
  go_wp2_with fail
  refine (hk.out _).mono ?_; rintro e w1 ⟨rfl, rfl⟩
  go_wp2
  go_ret2
  exact ⟨rfl, rfl⟩
set_option maxRecDepth 100000 in
theorem share_e (x : Nat) (n : Int) (k : Int) (b y f z : Nat) (w : World) (q : decide (k < 3) = false) (og : (FloatKind.f64.format.order x 4607182418800017408 == some .gt) = false) (h1 : 0 ≤ n) (h2 : n ≤ 100000) (hk : KindC 31 x k) (ci : floatOfInt .f64 n = b) (mu : ∀ W : World, (binOp .mul 22 (.float .f64 x) (.float .f64 b)).run Try.prog W = .ok (.float .f64 y) W) (fr : ∀ W : World, (callFunc 37 #[.float .f64 y]).run Try.prog W = .ok (.value (.float .f64 f)) W) (cv : ∀ W : World, (convert 22 3 (.float .f64 f)).run Try.prog W = .ok (.int .i64 (z : Nat)) W) :
    Calls Try.prog 26 #[.float .f64 x, .int .i64 n] w fun e w' => e = .returned (.tuple #[.int .i64 (z : Nat), .int .i64 0]) ∧ w = w' := by
  go_enter Try.func26, Try.ntmps26
  go_wp2_with fail
  refine (hk.out _).mono ?_; rintro e w1 ⟨rfl, rfl⟩
  go_wp2
  go_ret2
  exact ⟨rfl, rfl⟩
theorem Share_val (x : Nat) (n : Int) (w : World) (hx : x < 18446744073709551616) (hn : -9223372036854775808 ≤ n ∧ n ≤ 9223372036854775807) : Calls Try.prog 26 #[.float .f64 x, .int .i64 n] w fun e w' => e = .returned (.tuple #[.int .i64 (F.shV x n : Nat), .int .i64 (F.shE x n : Nat)]) ∧ w = w' := by
  have hk := Lib.hid (fun W => Kind_val x W hx)
  unfold F.shV F.shE
  by_cases hs : F.shareable x n
  · rw [if_pos hs, if_pos hs]
    obtain ⟨h0, h1, h2⟩ := hs
    have k3 : decide (((F.kindB x : Nat) : Int) < 3) = false := by
      apply decide_eq_false
      unfold F.kindB
      rw [if_neg (by omega), if_neg (by omega), if_neg (by omega)]
      by_cases a1 : x = 9223372036854775808
      · rw [if_pos a1]; decide
      rw [if_neg a1]
      by_cases a2 : x = 0
      · rw [if_pos a2]; decide
      rw [if_neg a2, if_neg (by omega)]; decide
    obtain ⟨m, rfl⟩ : ∃ m : Nat, n = (m : Int) := ⟨n.toNat, by omega⟩
    have hm : m < 9007199254740992 := by omega
    have og := ogt x 4607182418800017408 hx (by omega) (by omega)
    have ci := F.nb_int m
    rw [Int.toNat_natCast]
    by_cases hz : x = 9223372036854775808
    · rw [if_pos hz]
      subst hz
      have og' : (FloatKind.f64.format.order 9223372036854775808 4607182418800017408 == some .gt) = false := by decide
      have mu : ∀ W : World, (binOp .mul 22 (.float .f64 9223372036854775808) (.float .f64 (F.nb m))).run Try.prog W = .ok (.float .f64 9223372036854775808) W := fun W => run_float_arith W .mul _ .f64 _ _ _ (F.mul_minus m hm)
      clear og
      have cv : ∀ W : World, (convert 22 3 (.float .f64 9223372036854775808)).run Try.prog W = .ok (.int .i64 ((0 : Nat) : Int)) W := fun W => run_convert_float_int W _ _ .f64 .i64 _ _ (by kernel_rfl) Try.underlying3 (by kernel_rfl)
      exact share_e _ _ _ _ _ _ 0 w k3 og' h1 h2 hk ci mu floorm cv
    · rw [if_neg hz]
      have hx1 : x ≤ 4607182418800017408 := by omega
      have og' : (FloatKind.f64.format.order x 4607182418800017408 == some .gt) = false := by
        rw [og]; apply decide_eq_false
        unfold F.key; rw [if_pos (by omega)]; omega
      have mu : ∀ W : World, (binOp .mul 22 (.float .f64 x) (.float .f64 (F.nb m))).run Try.prog W = .ok (.float .f64 (F.mb x m)) W := fun W => run_float_arith W .mul _ .f64 _ _ _ (F.mul_num x m (by omega) hm)
      have hb := F.mb_bound x m hx1 hm
      have hnb := (F.nb_num m hm).1
      have fr := floorr (F.mb x m) (by omega)
      have cv : ∀ W : World, (convert 22 3 (.float .f64 (F.flb (F.mb x m)))).run Try.prog W = .ok (.int .i64 (F.fl (F.mb x m) : Nat)) W := fun W =>
        run_convert_float_int W _ _ .f64 .i64 _ _ (by kernel_rfl) Try.underlying3 (fti .i64 _ (by omega) (by show (-9223372036854775808 : Int) ≤ _; omega) (by show _ ≤ (9223372036854775807 : Int); omega))
      exact share_e x _ _ _ _ _ _ w k3 og' h1 h2 hk ci mu fr cv
  · rw [if_neg hs, if_neg hs]
    by_cases c1 : F.kindB x < 3
    · exact share_a x n _ w (decide_eq_true (by omega)) hk
    have k3 : decide (((F.kindB x : Nat) : Int) < 3) = false := decide_eq_false (by omega)
    have cx : x ≤ 9218868437227405312 ∨ x = 9223372036854775808 := by
      unfold F.kindB at c1
      by_cases a1 : 9218868437227405312 < x % 9223372036854775808
      · rw [if_pos a1] at c1; omega
      rw [if_neg a1] at c1
      by_cases a2 : x = 18442240474082181120
      · rw [if_pos a2] at c1; omega
      rw [if_neg a2] at c1
      by_cases a3 : x = 9218868437227405312
      · omega
      rw [if_neg a3] at c1
      by_cases a4 : x = 9223372036854775808
      · omega
      rw [if_neg a4] at c1
      by_cases a5 : x = 0
      · omega
      rw [if_neg a5] at c1
      by_cases a6 : 9223372036854775808 ≤ x
      · rw [if_pos a6] at c1; omega
      · omega
    have og := ogt x 4607182418800017408 hx (by omega) (by omega)
    by_cases c2 : 4607182418800017408 < x ∧ x ≤ 9218868437227405312
    · have og' : (FloatKind.f64.format.order x 4607182418800017408 == some .gt) = true := by
        rw [og]; apply decide_eq_true
        unfold F.key; rw [if_pos (by omega)]; omega
      exact share_b x n _ w k3 og' hk
    have og' : (FloatKind.f64.format.order x 4607182418800017408 == some .gt) = false := by
      rw [og]; apply decide_eq_false
      unfold F.key
      by_cases a : x < 9223372036854775808
      · rw [if_pos a]; omega
      · rw [if_neg a]; omega
    have k6 : (((F.kindB x : Nat) : Int) == 6) = false := by
      rw [beq_eq_false_iff_ne]
      have : x ≠ 9218868437227405312 := by omega
      unfold F.kindB
      by_cases a1 : 9218868437227405312 < x % 9223372036854775808
      · rw [if_pos a1]; decide
      rw [if_neg a1]
      by_cases a2 : x = 18442240474082181120
      · rw [if_pos a2]; decide
      rw [if_neg a2, if_neg this]
      by_cases a4 : x = 9223372036854775808
      · rw [if_pos a4]; decide
      rw [if_neg a4]
      by_cases a5 : x = 0
      · rw [if_pos a5]; decide
      rw [if_neg a5]
      by_cases a6 : 9223372036854775808 ≤ x
      · rw [if_pos a6]; decide
      · rw [if_neg a6]; decide
    have hnn : n < 0 ∨ 100000 < n := by
      unfold F.shareable at hs
      omega
    by_cases c3 : n < 0
    · exact share_c x n _ w k3 og' c3 hk
    · exact share_d x n _ w k3 og' (by omega) (by omega) hk
set_option maxRecDepth 100000 in
theorem rshare_a (x : Nat) (n : Int) (k : Int) (w : World) (q : decide (k < 3) = true) (hk : KindC 21 x k) :
    Calls Try.prog 28 #[.float .f64 x, .int .i64 n] w fun e w' => e = .returned (.tuple #[.int .i64 0, .int .i64 1]) ∧ w = w' := by
  go_enter Try.func28, Try.ntmps28
  go_wp2_with fail
  refine (hk.out _).mono ?_; rintro e w1 ⟨rfl, rfl⟩
  go_wp2
  go_ret2
  exact ⟨rfl, rfl⟩
set_option maxRecDepth 100000 in
theorem rshare_b6 (x : Nat) (n : Int) (w : World) (hk : KindC 21 x 6) :
    Calls Try.prog 28 #[.float .f64 x, .int .i64 n] w fun e w' => e = .returned (.tuple #[.int .i64 0, .int .i64 1]) ∧ w = w' := by
  go_enter Try.func28, Try.ntmps28
  go_wp2_with fail
  refine (hk.out _).mono ?_; rintro e w1 ⟨rfl, rfl⟩
  go_wp2
  go_ret2
  exact ⟨rfl, rfl⟩
set_option maxRecDepth 100000 in
theorem rshare_b (x : Nat) (n : Int) (k : Int) (w : World) (q : decide (k < 3) = false) (q6 : (k == 6) = false) (og : (FloatKind.f64.format.order x 4607182418800017408 == some .gt) = true) (hk : KindC 21 x k) :
    Calls Try.prog 28 #[.float .f64 x, .int .i64 n] w fun e w' => e = .returned (.tuple #[.int .i64 0, .int .i64 1]) ∧ w = w' := by
  go_enter Try.func28, Try.ntmps28
  go_wp2_with fail
  refine (hk.out _).mono ?_; rintro e w1 ⟨rfl, rfl⟩
  go_wp2
  go_ret2
  exact ⟨rfl, rfl⟩
set_option maxRecDepth 100000 in
theorem rshare_c (x : Nat) (n : Int) (k : Int) (w : World) (q : decide (k < 3) = false) (q6 : (k == 6) = false) (og : (FloatKind.f64.format.order x 4607182418800017408 == some .gt) = false) (h1 : n < 0) (hk : KindC 21 x k) :
    Calls Try.prog 28 #[.float .f64 x, .int .i64 n] w fun e w' => e = .returned (.tuple #[.int .i64 0, .int .i64 1]) ∧ w = w' := by
  go_enter Try.func28, Try.ntmps28
  go_wp2_with fail
  refine (hk.out _).mono ?_; rintro e w1 ⟨rfl, rfl⟩
  go_wp2
  go_ret2
  exact ⟨rfl, rfl⟩
set_option maxRecDepth 100000 in
theorem rshare_d (x : Nat) (n : Int) (k : Int) (w : World) (q : decide (k < 3) = false) (q6 : (k == 6) = false) (og : (FloatKind.f64.format.order x 4607182418800017408 == some .gt) = false) (h1 : 0 ≤ n) (h2 : 100000 < n) (hk : KindC 21 x k) :
    Calls Try.prog 28 #[.float .f64 x, .int .i64 n] w fun e w' => e = .returned (.tuple #[.int .i64 0, .int .i64 1]) ∧ w = w' := by
  go_enter Try.func28, Try.ntmps28
  go_wp2_with fail
  refine (hk.out _).mono ?_; rintro e w1 ⟨rfl, rfl⟩
  go_wp2
  go_ret2
  exact ⟨rfl, rfl⟩
set_option maxRecDepth 100000 in
theorem rshare_e (x : Nat) (n : Int) (k : Int) (b y : Nat) (w : World) (q : decide (k < 3) = false) (q6 : (k == 6) = false) (og : (FloatKind.f64.format.order x 4607182418800017408 == some .gt) = false) (h1 : 0 ≤ n) (h2 : n ≤ 100000) (hk : KindC 21 x k) (ci : floatOfInt .f64 n = b) (mu : ∀ W : World, (binOp .mul 22 (.float .f64 x) (.float .f64 b)).run Try.prog W = .ok (.float .f64 y) W) (oy : (FloatKind.f64.format.order y 4607182418800017408 == some .lt) = true) :
    Calls Try.prog 28 #[.float .f64 x, .int .i64 n] w fun e w' => e = .returned (.tuple #[.int .i64 0, .int .i64 0]) ∧ w = w' := by
  go_enter Try.func28, Try.ntmps28
  go_wp2_with fail
  refine (hk.out _).mono ?_; rintro e w1 ⟨rfl, rfl⟩
  go_wp2
  go_ret2
  exact ⟨rfl, rfl⟩
set_option maxRecDepth 100000 in
theorem rshare_f (x : Nat) (n : Int) (k : Int) (b y z : Nat) (w : World) (q : decide (k < 3) = false) (q6 : (k == 6) = false) (og : (FloatKind.f64.format.order x 4607182418800017408 == some .gt) = false) (h1 : 0 ≤ n) (h2 : n ≤ 100000) (hk : KindC 21 x k) (ci : floatOfInt .f64 n = b) (mu : ∀ W : World, (binOp .mul 22 (.float .f64 x) (.float .f64 b)).run Try.prog W = .ok (.float .f64 y) W) (oy : (FloatKind.f64.format.order y 4607182418800017408 == some .lt) = false) (hw : Hid (∀ W : World, Calls Try.prog 33 #[.float .f64 y] W fun e w' => e = .returned (.int .u64 (z : Nat)) ∧ W = w')) (wz : wrap64 (z : Int) = (z : Int)) :
    Calls Try.prog 28 #[.float .f64 x, .int .i64 n] w fun e w' => e = .returned (.tuple #[.int .i64 (z : Nat), .int .i64 0]) ∧ w = w' := by
  go_enter Try.func28, Try.ntmps28
  go_wp2_with fail
  refine (hk.out _).mono ?_; rintro e w1 ⟨rfl, rfl⟩
  go_wp2_with fail
  refine (hw.out _).mono ?_; rintro e w1 ⟨rfl, rfl⟩
  go_wp2
  go_ret2
  exact ⟨(by show Ending.returned (.tuple #[.int .i64 (wrap64 (z : Int)), .int .i64 0]) = _; rw [wz]), rfl⟩
theorem rShare_val (x : Nat) (n : Int) (w : World) (hx : x < 18446744073709551616) (hn : -9223372036854775808 ≤ n ∧ n ≤ 9223372036854775807) : Calls Try.prog 28 #[.float .f64 x, .int .i64 n] w fun e w' => e = .returned (.tuple #[.int .i64 (F.shV x n : Nat), .int .i64 (F.shE x n : Nat)]) ∧ w = w' := by
  have hk := Lib.hid (fun W => rKind_val x W hx)
  unfold F.shV F.shE
  by_cases hs : F.shareable x n
  · rw [if_pos hs, if_pos hs]
    obtain ⟨h0, h1, h2⟩ := hs
    have k3 : decide (((F.kindB x : Nat) : Int) < 3) = false := by
      apply decide_eq_false
      unfold F.kindB
      rw [if_neg (by omega), if_neg (by omega), if_neg (by omega)]
      by_cases a1 : x = 9223372036854775808
      · rw [if_pos a1]; decide
      rw [if_neg a1]
      by_cases a2 : x = 0
      · rw [if_pos a2]; decide
      rw [if_neg a2, if_neg (by omega)]; decide
    obtain ⟨m, rfl⟩ : ∃ m : Nat, n = (m : Int) := ⟨n.toNat, by omega⟩
    have hm : m < 9007199254740992 := by omega
    have k6 : (((F.kindB x : Nat) : Int) == 6) = false := by
      rw [beq_eq_false_iff_ne]
      unfold F.kindB
      rw [if_neg (by omega), if_neg (by omega), if_neg (by omega)]
      by_cases a1 : x = 9223372036854775808
      · rw [if_pos a1]; decide
      rw [if_neg a1]
      by_cases a2 : x = 0
      · rw [if_pos a2]; decide
      rw [if_neg a2, if_neg (by omega)]; decide
    have og := ogt x 4607182418800017408 hx (by omega) (by omega)
    have ci := F.nb_int m
    rw [Int.toNat_natCast]
    by_cases hz : x = 9223372036854775808
    · rw [if_pos hz]
      subst hz
      have og' : (FloatKind.f64.format.order 9223372036854775808 4607182418800017408 == some .gt) = false := by decide
      have mu : ∀ W : World, (binOp .mul 22 (.float .f64 9223372036854775808) (.float .f64 (F.nb m))).run Try.prog W = .ok (.float .f64 9223372036854775808) W := fun W => run_float_arith W .mul _ .f64 _ _ _ (F.mul_minus m hm)
      clear og
      exact rshare_e _ _ _ _ _ w k3 k6 og' h1 h2 hk ci mu (by decide)
    · rw [if_neg hz]
      have hx1 : x ≤ 4607182418800017408 := by omega
      have og' : (FloatKind.f64.format.order x 4607182418800017408 == some .gt) = false := by
        rw [og]; apply decide_eq_false
        unfold F.key; rw [if_pos (by omega)]; omega
      have mu : ∀ W : World, (binOp .mul 22 (.float .f64 x) (.float .f64 (F.nb m))).run Try.prog W = .ok (.float .f64 (F.mb x m)) W := fun W => run_float_arith W .mul _ .f64 _ _ _ (F.mul_num x m (by omega) hm)
      have hb := F.mb_bound x m hx1 hm
      have hnb := (F.nb_num m hm).1
      by_cases hy : F.mb x m < 4607182418800017408
      · rw [F.fl_none hy]
        have oy : (FloatKind.f64.format.order (F.mb x m) 4607182418800017408 == some .lt) = true := by rw [o_lt _ _ (by omega) (by omega) hy]; rfl
        exact rshare_e x _ _ _ _ w k3 k6 og' h1 h2 hk ci mu oy
      · have oy : (FloatKind.f64.format.order (F.mb x m) 4607182418800017408 == some .lt) = false := by
          rw [ord3 _ _ (by omega) (by omega), if_neg hy]
          by_cases e : F.mb x m = 4607182418800017408
          · rw [if_pos e]; rfl
          · rw [if_neg e]; rfl
        have hbig : F.mb x m < 4895412794951729152 := by
          refine Nat.lt_of_le_of_lt hb.1 ?_
          have := F.nb_lt (n := m) (m := 100000) (by omega)
          have e : F.nb 100000 < 4895412794951729152 := by decide
          omega
        have hw := Lib.hid (fun W => rwhole_val (F.mb x m) W (by omega) hbig)
        have wz : wrap64 ((F.fl (F.mb x m) : Nat) : Int) = ((F.fl (F.mb x m) : Nat) : Int) := by unfold wrap64; omega
        exact rshare_f x _ _ _ _ _ w k3 k6 og' h1 h2 hk ci mu oy hw wz
  · rw [if_neg hs, if_neg hs]
    by_cases c1 : F.kindB x < 3
    · exact rshare_a x n _ w (decide_eq_true (by omega)) hk
    have k3 : decide (((F.kindB x : Nat) : Int) < 3) = false := decide_eq_false (by omega)
    have cx : x ≤ 9218868437227405312 ∨ x = 9223372036854775808 := by
      unfold F.kindB at c1
      by_cases a1 : 9218868437227405312 < x % 9223372036854775808
      · rw [if_pos a1] at c1; omega
      rw [if_neg a1] at c1
      by_cases a2 : x = 18442240474082181120
      · rw [if_pos a2] at c1; omega
      rw [if_neg a2] at c1
      by_cases a3 : x = 9218868437227405312
      · omega
      rw [if_neg a3] at c1
      by_cases a4 : x = 9223372036854775808
      · omega
      rw [if_neg a4] at c1
      by_cases a5 : x = 0
      · omega
      rw [if_neg a5] at c1
      by_cases a6 : 9223372036854775808 ≤ x
      · rw [if_pos a6] at c1; omega
      · omega
    have og := ogt x 4607182418800017408 hx (by omega) (by omega)
    by_cases c2 : 4607182418800017408 < x ∧ x ≤ 9218868437227405312
    · have og' : (FloatKind.f64.format.order x 4607182418800017408 == some .gt) = true := by
        rw [og]; apply decide_eq_true
        unfold F.key; rw [if_pos (by omega)]; omega
      by_cases k6 : x = 9218868437227405312
      · have k6' : F.kindB x = 6 := by rw [k6]; decide
        rw [k6'] at hk
        exact rshare_b6 x n w hk
      have k6 : (((F.kindB x : Nat) : Int) == 6) = false := by
        rw [beq_eq_false_iff_ne]
        unfold F.kindB
        rw [if_neg (by omega), if_neg (by omega), if_neg (by omega), if_neg (by omega), if_neg (by omega), if_neg (by omega)]; decide
      exact rshare_b x n _ w k3 k6 og' hk
    have og' : (FloatKind.f64.format.order x 4607182418800017408 == some .gt) = false := by
      rw [og]; apply decide_eq_false
      unfold F.key
      by_cases a : x < 9223372036854775808
      · rw [if_pos a]; omega
      · rw [if_neg a]; omega
    have k6 : (((F.kindB x : Nat) : Int) == 6) = false := by
      rw [beq_eq_false_iff_ne]
      have : x ≠ 9218868437227405312 := by omega
      unfold F.kindB
      by_cases a1 : 9218868437227405312 < x % 9223372036854775808
      · rw [if_pos a1]; decide
      rw [if_neg a1]
      by_cases a2 : x = 18442240474082181120
      · rw [if_pos a2]; decide
      rw [if_neg a2, if_neg this]
      by_cases a4 : x = 9223372036854775808
      · rw [if_pos a4]; decide
      rw [if_neg a4]
      by_cases a5 : x = 0
      · rw [if_pos a5]; decide
      rw [if_neg a5]
      by_cases a6 : 9223372036854775808 ≤ x
      · rw [if_pos a6]; decide
      · rw [if_neg a6]; decide
    have hnn : n < 0 ∨ 100000 < n := by
      unfold F.shareable at hs
      omega
    by_cases c3 : n < 0
    · exact rshare_c x n _ w k3 k6 og' c3 hk
    · exact rshare_d x n _ w k3 k6 og' (by omega) (by omega) hk

end Go.Proofs.Ytpnehpkecfbneaa.G
