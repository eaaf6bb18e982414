/- Ticks and shares of any number, by bits: the program's and the document's. -/
import Derived.Test.YtmbidannodelfaaFt
namespace Go.Proofs.Ytmbidannodelfaa.G
open Go.RowKit
set_option linter.unusedVariables false
set_option linter.unusedSimpArgs false

abbrev KindC (f : Nat) (x : Nat) (k : Int) : Prop := Hid (∀ w, Calls Try.prog f #[.float .f64 x] w fun e w' => e = .returned (.int .i64 k) ∧ w = w')
/-- how a number that is none below the sign stands to another one -/
theorem ord3 (x c : Nat) (hx : x ≤ 9218868437227405312) (hc : c ≤ 9218868437227405312) : FloatKind.f64.format.order x c = if x < c then some .lt else if x = c then some .eq else some .gt := by
  have h : FloatKind.f64.format.order x c = some (compare (F.key x) (F.key c)) := F.order_key x c (by omega) (by omega) (by omega) (by omega)
  have k1 : F.key x = x := by unfold F.key; rw [if_pos (by omega)]
  have k2 : F.key c = c := by unfold F.key; rw [if_pos (by omega)]
  rw [h, k1, k2, F.cmp_eq]
  by_cases h1 : x < c
  · rw [if_pos h1, if_pos (by omega)]
  · rw [if_neg h1, if_neg (by omega)]
    by_cases h2 : x = c
    · rw [if_pos h2, if_pos (by omega)]
    · rw [if_neg h2, if_neg (by omega)]
theorem o_lt (x c : Nat) (hx : x ≤ 9218868437227405312) (hc : c ≤ 9218868437227405312) (h : x < c) : FloatKind.f64.format.order x c = some .lt := by rw [ord3 x c hx hc, if_pos h]
theorem o_eq (x c : Nat) (hx : x ≤ 9218868437227405312) (hc : c ≤ 9218868437227405312) (h : x = c) : FloatKind.f64.format.order x c = some .eq := by rw [ord3 x c hx hc, if_neg (by omega), if_pos h]
theorem o_gt (x c : Nat) (hx : x ≤ 9218868437227405312) (hc : c ≤ 9218868437227405312) (h : c < x) : FloatKind.f64.format.order x c = some .gt := by rw [ord3 x c hx hc, if_neg (by omega), if_neg (by omega)]
theorem floorr (x : Nat) (hx : x < 9218868437227405312) (W : World) : (callFunc 66 #[.float .f64 x]).run Try.prog W = .ok (.value (.float .f64 (F.flb x))) W := by
  rw [run_callFunc_extern Try.func66 (by kernel_rfl) (by kernel_rfl) (by kernel_rfl) (e := Extern.MathFloor.toIntegral "math.archFloor" .down) (by kernel_rfl)]
  obtain ⟨k, q, _, _, _, _, _, h2, _⟩ := F.read_num x hx
  have h4 : FloatKind.f64.decode x = .number false q (-1074 + (k : Int)) := h2
  have h5 := F.floor_num x hx
  rw [h2] at h5
  have h6 : FloatKind.f64.encode ((Ieee.Datum.number false q (-1074 + (k : Int))).integral .down) = F.flb x := h5
  show (Sem.run _ (Extern.MathFloor.toIntegral.match_1 (fun _ => Sem Value) (FloatKind.f64.decode x) _ _) W).andThen _ = _
  rw [h4]
  rw [← h6]
  rfl
theorem floorm (W : World) : (callFunc 66 #[.float .f64 9223372036854775808]).run Try.prog W = .ok (.value (.float .f64 9223372036854775808)) W := by
  rw [run_callFunc_extern Try.func66 (by kernel_rfl) (by kernel_rfl) (by kernel_rfl) (e := Extern.MathFloor.toIntegral "math.archFloor" .down) (by kernel_rfl)]
  kernel_rfl
theorem fti (k : IntKind) (x : Nat) (hx : x < 9218868437227405312) (h1 : k.min ≤ (F.fl x : Int)) (h2 : (F.fl x : Int) ≤ k.max) : floatToIntVal .f64 (F.flb x) k = some (F.fl x : Int) := by
  have hb := F.flb_num x hx
  have : (FloatKind.f64.decode (F.flb x)).toInt .zero = some (F.fl x : Int) := by
    have := F.toInt_num _ hb.1
    rw [hb.2] at this
    exact this
  unfold floatToIntVal
  rw [this]
  simp only [h1, h2, and_self, if_true]

set_option maxRecDepth 100000 in
theorem ticks_a (x : Nat) (k : Int) (w : World) (h0 : decide (k ≤ 4) = true) (hk : KindC 56 x k) :
    Calls Try.prog 40 #[.float .f64 x] w fun e w' => e = .returned (.tuple #[.int .u64 0, .int .i64 1]) ∧ w = w' := by
  go_enter Try.func40, Try.ntmps40
  go_wp2_with fail
  refine (hk.out _).mono ?_; rintro e w1 ⟨rfl, rfl⟩
  go_wp2
  go_ret2
  exact ⟨rfl, rfl⟩
set_option maxRecDepth 100000 in
theorem ticks_b (x : Nat) (w : World) (o1 : FloatKind.f64.format.order x 4607182418800017408 = some .lt) (hk : KindC 56 x 5) :
    Calls Try.prog 40 #[.float .f64 x] w fun e w' => e = .returned (.tuple #[.int .u64 0, .int .i64 1]) ∧ w = w' := by
  go_enter Try.func40, Try.ntmps40
  go_wp2_with fail
  refine (hk.out _).mono ?_; rintro e w1 ⟨rfl, rfl⟩
  go_wp2
  go_ret2
  exact ⟨rfl, rfl⟩
set_option maxRecDepth 100000 in
theorem ticks_c0 (x : Nat) (w : World) (o1 : FloatKind.f64.format.order x 4607182418800017408 = some .gt) (o2 : FloatKind.f64.format.order x 4895412794951729152 = some .gt) (hk : KindC 56 x 5) :
    Calls Try.prog 40 #[.float .f64 x] w fun e w' => e = .returned (.tuple #[.int .u64 18446744073709551615, .int .i64 0]) ∧ w = w' := by
  go_enter Try.func40, Try.ntmps40
  go_wp2_with fail
  refine (hk.out _).mono ?_; rintro e w1 ⟨rfl, rfl⟩
  go_wp2
  go_ret2
  exact ⟨rfl, rfl⟩
set_option maxRecDepth 100000 in
theorem ticks_c1 (x : Nat) (w : World) (o1 : FloatKind.f64.format.order x 4607182418800017408 = some .gt) (o2 : FloatKind.f64.format.order x 4895412794951729152 = some .eq) (hk : KindC 56 x 5) :
    Calls Try.prog 40 #[.float .f64 x] w fun e w' => e = .returned (.tuple #[.int .u64 18446744073709551615, .int .i64 0]) ∧ w = w' := by
  go_enter Try.func40, Try.ntmps40
  go_wp2_with fail
  refine (hk.out _).mono ?_; rintro e w1 ⟨rfl, rfl⟩
  go_wp2
  go_ret2
  exact ⟨rfl, rfl⟩
set_option maxRecDepth 100000 in
theorem ticks_c2 (x : Nat) (w : World) (o1 : FloatKind.f64.format.order x 4607182418800017408 = some .gt) (o2 : FloatKind.f64.format.order x 4895412794951729152 = some .gt) (hk : KindC 56 x 6) :
    Calls Try.prog 40 #[.float .f64 x] w fun e w' => e = .returned (.tuple #[.int .u64 18446744073709551615, .int .i64 0]) ∧ w = w' := by
  go_enter Try.func40, Try.ntmps40
  go_wp2_with fail
  refine (hk.out _).mono ?_; rintro e w1 ⟨rfl, rfl⟩
  go_wp2
  go_ret2
  exact ⟨rfl, rfl⟩
set_option maxRecDepth 100000 in
theorem ticks_d0 (x y z : Nat) (w : World) (o1 : FloatKind.f64.format.order x 4607182418800017408 = some .gt) (o2 : FloatKind.f64.format.order x 4895412794951729152 = some .lt) (hk : KindC 56 x 5) (fr : ∀ W : World, (callFunc 66 #[.float .f64 x]).run Try.prog W = .ok (.value (.float .f64 y)) W) (cv : ∀ W : World, (convert 30 22 (.float .f64 y)).run Try.prog W = .ok (.int .u64 (z : Nat)) W) :
    Calls Try.prog 40 #[.float .f64 x] w fun e w' => e = .returned (.tuple #[.int .u64 (z : Nat), .int .i64 0]) ∧ w = w' := by
  go_enter Try.func40, Try.ntmps40
  go_wp2_with fail
  refine (hk.out _).mono ?_; rintro e w1 ⟨rfl, rfl⟩
  go_wp2
  go_ret2
  exact ⟨rfl, rfl⟩
set_option maxRecDepth 100000 in
theorem ticks_d1 (x y z : Nat) (w : World) (o1 : FloatKind.f64.format.order x 4607182418800017408 = some .eq) (o2 : FloatKind.f64.format.order x 4895412794951729152 = some .lt) (hk : KindC 56 x 5) (fr : ∀ W : World, (callFunc 66 #[.float .f64 x]).run Try.prog W = .ok (.value (.float .f64 y)) W) (cv : ∀ W : World, (convert 30 22 (.float .f64 y)).run Try.prog W = .ok (.int .u64 (z : Nat)) W) :
    Calls Try.prog 40 #[.float .f64 x] w fun e w' => e = .returned (.tuple #[.int .u64 (z : Nat), .int .i64 0]) ∧ w = w' := by
  go_enter Try.func40, Try.ntmps40
  go_wp2_with fail
  refine (hk.out _).mono ?_; rintro e w1 ⟨rfl, rfl⟩
  go_wp2
  go_ret2
  exact ⟨rfl, rfl⟩
theorem Ticks_val (x : Nat) (w : World) (hx : x < 18446744073709551616) : Calls Try.prog 40 #[.float .f64 x] w fun e w' => e = .returned (.tuple #[.int .u64 (F.tickV x : Nat), .int .i64 (F.tickE x : Nat)]) ∧ w = w' := by
  have hk := Lib.hid (fun W => Kind_val x W hx)
  unfold F.tickV F.tickE
  by_cases ht : F.timely x
  · rw [if_pos ht, if_pos ht]
    obtain ⟨h1, h2⟩ := ht
    have e1 : FloatKind.f64.format.order x 4607182418800017408 = some .gt ∨ FloatKind.f64.format.order x 4607182418800017408 = some .eq := by
      rcases Nat.lt_or_eq_of_le h1 with h | h
      · left; exact o_gt x _ h2 (by omega) h
      · right; exact o_eq x _ h2 (by omega) h.symm
    by_cases hi : x = 9218868437227405312
    · have k6 : F.kindB x = 6 := by rw [hi]; decide
      rw [k6] at hk
      rw [if_pos (by omega)]
      exact ticks_c2 x w (o_gt x _ h2 (by omega) (by omega)) (o_gt x _ h2 (by omega) (by omega)) hk
    have k5 : F.kindB x = 5 := by
      unfold F.kindB
      rw [if_neg (by omega), if_neg (by omega), if_neg (by omega), if_neg (by omega), if_neg (by omega), if_neg (by omega)]
    rw [k5] at hk
    by_cases h3 : 4895412794951729152 ≤ x
    · rw [if_pos h3]
      rcases Nat.lt_or_eq_of_le h3 with h | h
      · exact ticks_c0 x w (o_gt x _ h2 (by omega) (by omega)) (o_gt x _ h2 (by omega) h) hk
      · exact ticks_c1 x w (o_gt x _ h2 (by omega) (by omega)) (o_eq x _ h2 (by omega) h.symm) hk
    · rw [if_neg h3]
      have o2 := o_lt x 4895412794951729152 h2 (by omega) (by omega)
      have hb := F.fl_big (x := x) (by omega)
      have fr := floorr x (by omega)
      have cv : ∀ W : World, (convert 30 22 (.float .f64 (F.flb x))).run Try.prog W = .ok (.int .u64 (F.fl x : Nat)) W := fun W =>
        run_convert_float_int W _ _ .f64 .u64 _ _ (by kernel_rfl) Try.underlying22 (fti .u64 x (by omega) (by show (0 : Int) ≤ _; omega) (by show _ ≤ (18446744073709551615 : Int); omega))
      rcases e1 with e1 | e1
      · exact ticks_d0 x _ _ w e1 o2 hk fr cv
      · exact ticks_d1 x _ _ w e1 o2 hk fr cv
  · rw [if_neg ht, if_neg ht]
    by_cases h4 : F.kindB x ≤ 4
    · exact ticks_a x _ w (decide_eq_true (by omega)) hk
    · have hx5 : F.kindB x = 5 ∧ x < 4607182418800017408 := by
        unfold F.timely at ht
        unfold F.kindB at h4 ⊢
        by_cases a1 : 9218868437227405312 < x % 9223372036854775808
        · rw [if_pos a1] at h4; omega
        rw [if_neg a1] at h4 ⊢
        by_cases a2 : x = 18442240474082181120
        · rw [if_pos a2] at h4; omega
        rw [if_neg a2] at h4 ⊢
        by_cases a3 : x = 9218868437227405312
        · omega
        rw [if_neg a3] at h4 ⊢
        by_cases a4 : x = 9223372036854775808
        · rw [if_pos a4] at h4; omega
        rw [if_neg a4] at h4 ⊢
        by_cases a5 : x = 0
        · rw [if_pos a5] at h4; omega
        rw [if_neg a5] at h4 ⊢
        by_cases a6 : 9223372036854775808 ≤ x
        · rw [if_pos a6] at h4; omega
        rw [if_neg a6] at h4 ⊢
        refine ⟨rfl, ?_⟩
        omega
      rw [hx5.1] at hk
      exact ticks_b x w (o_lt x _ (by omega) (by omega) hx5.2) hk
theorem rmaxv (w : World) : Calls Try.prog 51 #[] w fun e w' => e = .returned (.int .u64 18446744073709551615) ∧ w = w' := by
  go_enter Try.func51, Try.ntmps51
  go_wp2
  go_ret
  exact ⟨rfl, rfl⟩
set_option maxRecDepth 100000 in
theorem rticks_a (x : Nat) (k : Int) (w : World) (h0 : decide (k ≤ 4) = true) (hk : KindC 50 x k) :
    Calls Try.prog 36 #[.float .f64 x] w fun e w' => e = .returned (.tuple #[.int .u64 0, .int .i64 1]) ∧ w = w' := by
  go_enter Try.func36, Try.ntmps36
  go_wp2_with fail
  refine (hk.out _).mono ?_; rintro e w1 ⟨rfl, rfl⟩
  go_wp2
  go_ret2
  exact ⟨rfl, rfl⟩
set_option maxRecDepth 100000 in
theorem rticks_b (x : Nat) (w : World) (o1 : FloatKind.f64.format.order x 4607182418800017408 = some .lt) (hk : KindC 50 x 5) :
    Calls Try.prog 36 #[.float .f64 x] w fun e w' => e = .returned (.tuple #[.int .u64 0, .int .i64 1]) ∧ w = w' := by
  go_enter Try.func36, Try.ntmps36
  go_wp2_with fail
  refine (hk.out _).mono ?_; rintro e w1 ⟨rfl, rfl⟩
  go_wp2
  go_ret2
  exact ⟨rfl, rfl⟩
set_option maxRecDepth 100000 in
theorem rticks_c0 (x : Nat) (w : World) (o1 : FloatKind.f64.format.order x 4607182418800017408 = some .gt) (o2 : FloatKind.f64.format.order x 4895412794951729152 = some .gt) (hk : KindC 50 x 5) :
    Calls Try.prog 36 #[.float .f64 x] w fun e w' => e = .returned (.tuple #[.int .u64 18446744073709551615, .int .i64 0]) ∧ w = w' := by
  go_enter Try.func36, Try.ntmps36
  go_wp2_with fail
  refine (hk.out _).mono ?_; rintro e w1 ⟨rfl, rfl⟩
  go_wp2_with fail
  refine (rmaxv _).mono ?_; rintro e w1 ⟨rfl, rfl⟩
  go_wp2
  go_ret2
  exact ⟨rfl, rfl⟩
set_option maxRecDepth 100000 in
theorem rticks_c1 (x : Nat) (w : World) (o1 : FloatKind.f64.format.order x 4607182418800017408 = some .gt) (o2 : FloatKind.f64.format.order x 4895412794951729152 = some .eq) (hk : KindC 50 x 5) :
    Calls Try.prog 36 #[.float .f64 x] w fun e w' => e = .returned (.tuple #[.int .u64 18446744073709551615, .int .i64 0]) ∧ w = w' := by
  go_enter Try.func36, Try.ntmps36
  go_wp2_with fail
  refine (hk.out _).mono ?_; rintro e w1 ⟨rfl, rfl⟩
  go_wp2_with fail
  refine (rmaxv _).mono ?_; rintro e w1 ⟨rfl, rfl⟩
  go_wp2
  go_ret2
  exact ⟨rfl, rfl⟩
set_option maxRecDepth 100000 in
theorem rticks_c2 (x : Nat) (w : World) (hk : KindC 50 x 6) :
    Calls Try.prog 36 #[.float .f64 x] w fun e w' => e = .returned (.tuple #[.int .u64 18446744073709551615, .int .i64 0]) ∧ w = w' := by
  go_enter Try.func36, Try.ntmps36
  go_wp2_with fail
  refine (hk.out _).mono ?_; rintro e w1 ⟨rfl, rfl⟩
  go_wp2_with fail
  refine (rmaxv _).mono ?_; rintro e w1 ⟨rfl, rfl⟩
  go_wp2
  go_ret2
  exact ⟨rfl, rfl⟩
set_option maxRecDepth 100000 in
theorem rticks_d0 (x z : Nat) (w : World) (o1 : FloatKind.f64.format.order x 4607182418800017408 = some .gt) (o2 : FloatKind.f64.format.order x 4895412794951729152 = some .lt) (hk : KindC 50 x 5) (hw : Hid (∀ W : World, Calls Try.prog 52 #[.float .f64 x] W fun e w' => e = .returned (.int .u64 (z : Nat)) ∧ W = w')) :
    Calls Try.prog 36 #[.float .f64 x] w fun e w' => e = .returned (.tuple #[.int .u64 (z : Nat), .int .i64 0]) ∧ w = w' := by
  go_enter Try.func36, Try.ntmps36
  go_wp2_with fail
  refine (hk.out _).mono ?_; rintro e w1 ⟨rfl, rfl⟩
  go_wp2_with fail
  refine (hw.out _).mono ?_; rintro e w1 ⟨rfl, rfl⟩
  go_wp2
  go_ret2
  exact ⟨rfl, rfl⟩
set_option maxRecDepth 100000 in
theorem rticks_d1 (x z : Nat) (w : World) (o1 : FloatKind.f64.format.order x 4607182418800017408 = some .eq) (o2 : FloatKind.f64.format.order x 4895412794951729152 = some .lt) (hk : KindC 50 x 5) (hw : Hid (∀ W : World, Calls Try.prog 52 #[.float .f64 x] W fun e w' => e = .returned (.int .u64 (z : Nat)) ∧ W = w')) :
    Calls Try.prog 36 #[.float .f64 x] w fun e w' => e = .returned (.tuple #[.int .u64 (z : Nat), .int .i64 0]) ∧ w = w' := by
  go_enter Try.func36, Try.ntmps36
  go_wp2_with fail
  refine (hk.out _).mono ?_; rintro e w1 ⟨rfl, rfl⟩
  go_wp2_with fail
  refine (hw.out _).mono ?_; rintro e w1 ⟨rfl, rfl⟩
  go_wp2
  go_ret2
  exact ⟨rfl, rfl⟩
theorem rTicks_val (x : Nat) (w : World) (hx : x < 18446744073709551616) : Calls Try.prog 36 #[.float .f64 x] w fun e w' => e = .returned (.tuple #[.int .u64 (F.tickV x : Nat), .int .i64 (F.tickE x : Nat)]) ∧ w = w' := by
  have hk := Lib.hid (fun W => rKind_val x W hx)
  unfold F.tickV F.tickE
  by_cases ht : F.timely x
  · rw [if_pos ht, if_pos ht]
    obtain ⟨h1, h2⟩ := ht
    have e1 : FloatKind.f64.format.order x 4607182418800017408 = some .gt ∨ FloatKind.f64.format.order x 4607182418800017408 = some .eq := by
      rcases Nat.lt_or_eq_of_le h1 with h | h
      · left; exact o_gt x _ h2 (by omega) h
      · right; exact o_eq x _ h2 (by omega) h.symm
    by_cases hi : x = 9218868437227405312
    · have k6 : F.kindB x = 6 := by rw [hi]; decide
      rw [k6] at hk
      rw [if_pos (by omega)]
      exact rticks_c2 x w  hk
    have k5 : F.kindB x = 5 := by
      unfold F.kindB
      rw [if_neg (by omega), if_neg (by omega), if_neg (by omega), if_neg (by omega), if_neg (by omega), if_neg (by omega)]
    rw [k5] at hk
    by_cases h3 : 4895412794951729152 ≤ x
    · rw [if_pos h3]
      rcases Nat.lt_or_eq_of_le h3 with h | h
      · exact rticks_c0 x w (o_gt x _ h2 (by omega) (by omega)) (o_gt x _ h2 (by omega) h) hk
      · exact rticks_c1 x w (o_gt x _ h2 (by omega) (by omega)) (o_eq x _ h2 (by omega) h.symm) hk
    · rw [if_neg h3]
      have o2 := o_lt x 4895412794951729152 h2 (by omega) (by omega)
      have hw := Lib.hid (fun W => rwhole_val x W h1 (by omega))
      rcases e1 with e1 | e1
      · exact rticks_d0 x _ w e1 o2 hk hw
      · exact rticks_d1 x _ w e1 o2 hk hw
  · rw [if_neg ht, if_neg ht]
    by_cases h4 : F.kindB x ≤ 4
    · exact rticks_a x _ w (decide_eq_true (by omega)) hk
    · have hx5 : F.kindB x = 5 ∧ x < 4607182418800017408 := by
        unfold F.timely at ht
        unfold F.kindB at h4 ⊢
        by_cases a1 : 9218868437227405312 < x % 9223372036854775808
        · rw [if_pos a1] at h4; omega
        rw [if_neg a1] at h4 ⊢
        by_cases a2 : x = 18442240474082181120
        · rw [if_pos a2] at h4; omega
        rw [if_neg a2] at h4 ⊢
        by_cases a3 : x = 9218868437227405312
        · omega
        rw [if_neg a3] at h4 ⊢
        by_cases a4 : x = 9223372036854775808
        · rw [if_pos a4] at h4; omega
        rw [if_neg a4] at h4 ⊢
        by_cases a5 : x = 0
        · rw [if_pos a5] at h4; omega
        rw [if_neg a5] at h4 ⊢
        by_cases a6 : 9223372036854775808 ≤ x
        · rw [if_pos a6] at h4; omega
        rw [if_neg a6] at h4 ⊢
        refine ⟨rfl, ?_⟩
        omega
      rw [hx5.1] at hk
      exact rticks_b x w (o_lt x _ (by omega) (by omega) hx5.2) hk

end Go.Proofs.Ytmbidannodelfaa.G
