/- TtlPowers: whatever the power, the law answers true. No condition. -/
import Derived.Test.YtgnmhepneahhdaaTk
import Derived.Test.YtgnmhepneahhdaaFu
import Derived.Test.YtgnmhepneahhdaaFw
namespace Go.Proofs.Ytgnmhepneahhdaa.L
open Go.RowKit Go.Proofs.Ytgnmhepneahhdaa.G
set_option linter.unusedVariables false
set_option linter.unusedSimpArgs false

abbrev TickC (x : Nat) (a : Int) (e : Int) : Prop := Hid (∀ w, Calls Try.prog 10 #[.float .f64 x] w fun r w' => r = .returned (.tuple #[.int .u64 a, .int .i64 e]) ∧ w = w')
theorem ms (n i : Nat) (h : i < n) : ((n : Int) - intOf (.int .i64 ((i : Int) + 1))).toNat < ((n : Int) - intOf (.int .i64 (i : Int))).toNat := by simp [intOf]; omega
theorem frombits' (x : Nat) (W : World) : (callFunc 22 #[.int .u64 (x : Int)]).run Try.prog W = .ok (.value (.float .f64 x)) W := by kernel_rfl

set_option maxRecDepth 100000 in
set_option maxHeartbeats 1000000 in
theorem powers_z (k n q X Y Z a b : Nat) (w : World) (ek : wrap64 (k : Int) = (k : Int)) (e0 : (k : Int).tmod 1024 = (n : Int)) (e1 : wrap64 (1023 + (n : Int)) = (q : Int)) (e2 : IntKind.u64.wrap (q : Int) = (q : Int)) (e3 : IntKind.u64.wrap ((q : Int) * 4503599627370496) = (X : Int)) (e4 : IntKind.u64.wrap ((X : Int) - 1) = (Y : Int)) (sb : ∀ W : World, (binOp .sub 22 (.float .f64 0) (.float .f64 X)).run Try.prog W = .ok (.float .f64 Z) W) (n0 : ((n : Int) == 0) = true) (nl : decide ((n : Int) < 64) = true) (nz : Hid (n = 0)) (T1 : TickC X 1 0) (T2 : TickC Y 0 1) (T3 : TickC Z 0 1) :
    Calls Try.prog 9 #[.int .u16 (k : Nat)] w fun e w' => e = .returned (.bool true) ∧ Below w.heap.size w w' := by
  have fx := frombits' X
  have fy := frombits' Y
  have bx := bitsr X
  go_enter Try.func9, Try.ntmps9
  go_wp2_with fail
  refine (T1.out _).mono ?_; rintro e w1 ⟨rfl, rfl⟩
  go_wp2_with fail
  refine (T2.out _).mono ?_; rintro e w1 ⟨rfl, rfl⟩
  go_wp2_with fail
  refine (T3.out _).mono ?_; rintro e w1 ⟨rfl, rfl⟩
  go_wp2_with fail
  refine (rmaxv _).mono ?_; rintro e w1 ⟨rfl, rfl⟩
  go_wp2_with fail
  go_loop [11, 12] (fun av iv => av = .int .u64 1 ∧ iv = .int .i64 0) (fun _ c => 0)
  case atStart => exact ⟨rfl, rfl⟩
  case round =>
    obtain ⟨rfl, rfl⟩ := hrel
    have dl : decide ((0 : Int) < (n : Int)) = false := decide_eq_false (by have := nz.out; omega)
    have dl2 : (0 < n) = False := eq_false (by have := nz.out; omega)
    go_wp2_with fail
    refine (fixed_val _).mono ?_; rintro e w1 ⟨rfl, rfl⟩
    go_wp2_with fail
    go_ret
    exact ⟨rfl, Below.refl _ _⟩

set_option maxRecDepth 100000 in
set_option maxHeartbeats 1000000 in
theorem powers_s (k n q X Y Z a b : Nat) (w : World) (ek : wrap64 (k : Int) = (k : Int)) (e0 : (k : Int).tmod 1024 = (n : Int)) (e1 : wrap64 (1023 + (n : Int)) = (q : Int)) (e2 : IntKind.u64.wrap (q : Int) = (q : Int)) (e3 : IntKind.u64.wrap ((q : Int) * 4503599627370496) = (X : Int)) (e4 : IntKind.u64.wrap ((X : Int) - 1) = (Y : Int)) (sb : ∀ W : World, (binOp .sub 22 (.float .f64 0) (.float .f64 X)).run Try.prog W = .ok (.float .f64 Z) W) (n0 : ((n : Int) == 0) = false) (nl : decide ((n : Int) < 64) = true) (ng : decide ((n : Int) > 64) = false) (HN : Hid (n < 64)) (HA : Hid (a = 2 ^ n)) (ab : decide ((b : Int) < (a : Int)) = true) (al : decide ((b : Int) ≤ (a : Int)) = true) (T1 : TickC X a 0) (T2 : TickC Y b 0) (T3 : TickC Z 0 1) :
    Calls Try.prog 9 #[.int .u16 (k : Nat)] w fun e w' => e = .returned (.bool true) ∧ Below w.heap.size w w' := by
  have fx := frombits' X
  have fy := frombits' Y
  have bx := bitsr X
  go_enter Try.func9, Try.ntmps9
  go_wp2_with fail
  refine (T1.out _).mono ?_; rintro e w1 ⟨rfl, rfl⟩
  go_wp2_with fail
  refine (T2.out _).mono ?_; rintro e w1 ⟨rfl, rfl⟩
  go_wp2_with fail
  refine (T3.out _).mono ?_; rintro e w1 ⟨rfl, rfl⟩
  go_wp2_with fail
  refine (rmaxv _).mono ?_; rintro e w1 ⟨rfl, rfl⟩
  go_wp2_with fail
  have hn64 := HN.out
  have ab2 : (b < a) = True := eq_true (Int.ofNat_lt.1 (of_decide_eq_true ab))
  have al2 : (b ≤ a) = True := eq_true (Int.ofNat_le.1 (of_decide_eq_true al))
  go_loop [11, 12] (fun av iv => ∃ (i m : Nat), av = .int .u64 m ∧ iv = .int .i64 i ∧ m = 2 ^ i ∧ i ≤ n) (fun _ c => (n - intOf c).toNat)
  case atStart => exact ⟨0, 1, rfl, rfl, rfl, by omega⟩
  case round =>
    obtain ⟨i, m, rfl, rfl, hm, hi⟩ := hrel
    by_cases hlt : i < n
    · obtain ⟨m', hm'⟩ : ∃ m', m' = m * 2 := ⟨_, rfl⟩
      have hb : m < 9223372036854775808 := by
        have : (2 : Nat) ^ i ≤ 2 ^ 62 := Nat.pow_le_pow_right (by omega) (by omega)
        have e : (2 : Nat) ^ 62 = 4611686018427387904 := by decide
        rw [e, ← hm] at this
        omega
      have w1 : IntKind.u64.wrap ((m : Int) * 2) = (m' : Int) := by
        have : ((m : Int) * 2) = ((m * 2 : Nat) : Int) := by omega
        rw [this, ← hm']; exact u64w _ (by omega)
      have w2 : wrap64 ((i : Int) + 1) = ((i + 1 : Nat) : Int) := by unfold wrap64; omega
      have hm2 : m' = 2 ^ (i + 1) := by rw [hm', hm, Nat.pow_succ]
      have dl : decide ((i : Int) < (n : Int)) = true := decide_eq_true (Int.ofNat_lt.2 hlt)
      have dl2 : (i < n) = True := eq_true hlt
      have M2 := Lib.hid hm2
      have HI := Lib.hid hlt
      clear hm hm' hm2 hb hlt hi
      go_wp2_with fail
      go_round
      case rel => exact ⟨i + 1, m', rfl, by first | rfl | rw [w2], M2.out, HI.out⟩
      case measure => rw [show wrap64 ((i : Int) + 1) = (i : Int) + 1 from w2]; exact ms n i HI.out
    · have hin : i = n := Nat.le_antisymm hi (Nat.le_of_not_lt hlt)
      have dl : decide ((i : Int) < (n : Int)) = false := decide_eq_false (fun h => hlt (Int.ofNat_lt.1 h))
      have dl2 : (i < n) = False := eq_false hlt
      have ma : m = a := by rw [hm, hin, HA.out]
      subst ma
      clear hm hlt hi
      go_wp2_with fail
      refine (fixed_val _).mono ?_; rintro e w1 ⟨rfl, rfl⟩
      go_wp2_with fail
      go_ret
      exact ⟨rfl, Below.refl _ _⟩

set_option maxRecDepth 100000 in
set_option maxHeartbeats 1000000 in
theorem powers_e (k n q X Y Z a b : Nat) (w : World) (ek : wrap64 (k : Int) = (k : Int)) (e0 : (k : Int).tmod 1024 = (n : Int)) (e1 : wrap64 (1023 + (n : Int)) = (q : Int)) (e2 : IntKind.u64.wrap (q : Int) = (q : Int)) (e3 : IntKind.u64.wrap ((q : Int) * 4503599627370496) = (X : Int)) (e4 : IntKind.u64.wrap ((X : Int) - 1) = (Y : Int)) (sb : ∀ W : World, (binOp .sub 22 (.float .f64 0) (.float .f64 X)).run Try.prog W = .ok (.float .f64 Z) W) (n0 : ((n : Int) == 0) = false) (nl : decide ((n : Int) < 64) = false) (ng : decide ((n : Int) > 64) = false) (ab : decide ((b : Int) < 18446744073709551615) = true) (al : decide ((b : Int) ≤ 18446744073709551615) = true) (T1 : TickC X 18446744073709551615 0) (T2 : TickC Y b 0) (T3 : TickC Z 0 1) :
    Calls Try.prog 9 #[.int .u16 (k : Nat)] w fun e w' => e = .returned (.bool true) ∧ Below w.heap.size w w' := by
  have fx := frombits' X
  have fy := frombits' Y
  have bx := bitsr X
  go_enter Try.func9, Try.ntmps9
  go_wp2_with fail
  refine (T1.out _).mono ?_; rintro e w1 ⟨rfl, rfl⟩
  go_wp2_with fail
  refine (T2.out _).mono ?_; rintro e w1 ⟨rfl, rfl⟩
  go_wp2_with fail
  refine (T3.out _).mono ?_; rintro e w1 ⟨rfl, rfl⟩
  go_wp2_with fail
  refine (rmaxv _).mono ?_; rintro e w1 ⟨rfl, rfl⟩
  go_wp2_with fail
  refine (fixed_val _).mono ?_; rintro e w1 ⟨rfl, rfl⟩
  go_wp2_with fail
  go_ret
  exact ⟨rfl, Below.refl _ _⟩

set_option maxRecDepth 100000 in
set_option maxHeartbeats 1000000 in
theorem powers_g (k n q X Y Z a b : Nat) (w : World) (ek : wrap64 (k : Int) = (k : Int)) (e0 : (k : Int).tmod 1024 = (n : Int)) (e1 : wrap64 (1023 + (n : Int)) = (q : Int)) (e2 : IntKind.u64.wrap (q : Int) = (q : Int)) (e3 : IntKind.u64.wrap ((q : Int) * 4503599627370496) = (X : Int)) (e4 : IntKind.u64.wrap ((X : Int) - 1) = (Y : Int)) (sb : ∀ W : World, (binOp .sub 22 (.float .f64 0) (.float .f64 X)).run Try.prog W = .ok (.float .f64 Z) W) (n0 : ((n : Int) == 0) = false) (nl : decide ((n : Int) < 64) = false) (ng : decide ((n : Int) > 64) = true) (al : decide ((b : Int) ≤ 18446744073709551615) = true) (T1 : TickC X 18446744073709551615 0) (T2 : TickC Y b 0) (T3 : TickC Z 0 1) :
    Calls Try.prog 9 #[.int .u16 (k : Nat)] w fun e w' => e = .returned (.bool true) ∧ Below w.heap.size w w' := by
  have fx := frombits' X
  have fy := frombits' Y
  have bx := bitsr X
  go_enter Try.func9, Try.ntmps9
  go_wp2_with fail
  refine (T1.out _).mono ?_; rintro e w1 ⟨rfl, rfl⟩
  go_wp2_with fail
  refine (T2.out _).mono ?_; rintro e w1 ⟨rfl, rfl⟩
  go_wp2_with fail
  refine (T3.out _).mono ?_; rintro e w1 ⟨rfl, rfl⟩
  go_wp2_with fail
  refine (rmaxv _).mono ?_; rintro e w1 ⟨rfl, rfl⟩
  go_wp2_with fail
  refine (fixed_val _).mono ?_; rintro e w1 ⟨rfl, rfl⟩
  go_wp2_with fail
  go_ret
  exact ⟨rfl, Below.refl _ _⟩

theorem powers_main (k : Nat) (w : World) (hk : k < 65536) :
    Calls Try.prog 9 #[.int .u16 (k : Nat)] w fun e w' => e = .returned (.bool true) ∧ Below w.heap.size w w' := by
  obtain ⟨n, hn⟩ : ∃ m, m = k % 1024 := ⟨_, rfl⟩
  have hnl : n < 1024 := by omega
  have e0 : (k : Int).tmod 1024 = (n : Int) := by rw [hn]; exact (Int.ofNat_tmod k 1024).symm
  have ek : wrap64 (k : Int) = (k : Int) := by unfold wrap64; omega
  obtain ⟨X, hX⟩ : ∃ X, X = F.pw n := ⟨_, rfl⟩
  have hXe : X = (1023 + n) * 4503599627370496 := hX
  have e1 : wrap64 (1023 + (n : Int)) = ((1023 + n : Nat) : Int) := by unfold wrap64; omega
  have e2 : IntKind.u64.wrap ((1023 + n : Nat) : Int) = ((1023 + n : Nat) : Int) := u64w _ (by omega)
  have e3 : IntKind.u64.wrap (((1023 + n : Nat) : Int) * 4503599627370496) = (X : Int) := by
    have : ((1023 + n : Nat) : Int) * 4503599627370496 = (X : Int) := by omega
    rw [this]; exact u64w _ (by omega)
  have e4 : IntKind.u64.wrap ((X : Int) - 1) = ((X - 1 : Nat) : Int) := by
    have : ((X : Int) - 1) = ((X - 1 : Nat) : Int) := by omega
    rw [this]; exact u64w _ (by omega)
  obtain ⟨Z, hZ, z1, z2⟩ := F.sub_neg X (by omega) (by omega)
  have sb : ∀ W : World, (binOp .sub 22 (.float .f64 0) (.float .f64 X)).run Try.prog W = .ok (.float .f64 Z) W := fun W => run_float_arith W .sub _ .f64 _ _ _ hZ
  have T1 : TickC X (F.tickV X : Nat) (F.tickE X : Nat) := Lib.hid (fun W => Ticks_val _ W (by omega))
  have T2 : TickC (X - 1) (F.tickV (X - 1) : Nat) (F.tickE (X - 1) : Nat) := Lib.hid (fun W => Ticks_val _ W (by omega))
  have T3 : TickC Z (F.tickV Z : Nat) (F.tickE Z : Nat) := Lib.hid (fun W => Ticks_val _ W z2)
  rw [(F.neg_tick Z z1).1, (F.neg_tick Z z1).2] at T3
  have fX : F.fl X = 2 ^ n := by rw [hX]; exact F.pw_fl n
  have tX : F.timely X := by unfold F.timely; omega
  have vE : F.tickE X = 0 := by unfold F.tickE; rw [if_pos tX]
  rw [vE] at T1
  by_cases h0 : n = 0
  · have hY : ¬ F.timely (X - 1) := by unfold F.timely; omega
    have y1 : F.tickE (X - 1) = 1 := by unfold F.tickE; rw [if_neg hY]
    have y2 : F.tickV (X - 1) = 0 := by unfold F.tickV; rw [if_neg hY]
    have x1 : F.tickV X = 1 := by unfold F.tickV; rw [if_pos tX, if_neg (by omega), fX, h0]
    rw [y1, y2] at T2
    rw [x1] at T1
    exact powers_z k n _ X _ Z 0 0 w ek e0 e1 e2 e3 e4 sb (by rw [h0]; rfl) (decide_eq_true (by omega)) (Lib.hid h0) T1 T2 T3
  · have hY : F.timely (X - 1) := by unfold F.timely; omega
    have y1 : F.tickE (X - 1) = 0 := by unfold F.tickE; rw [if_pos hY]
    rw [y1] at T2
    have n0 : ((n : Int) == 0) = false := by rw [beq_eq_false_iff_ne]; omega
    by_cases h1 : n < 64
    · have x1 : F.tickV X = 2 ^ n := by unfold F.tickV; rw [if_pos tX, if_neg (by omega), fX]
      have y2 : F.tickV (X - 1) = F.fl (X - 1) := by unfold F.tickV; rw [if_pos hY, if_neg (by omega)]
      have hl : F.fl (X - 1) < 2 ^ n := by rw [hX]; exact F.pw_less n (by omega)
      rw [x1] at T1
      rw [y2] at T2
      exact powers_s k n _ X _ Z (2 ^ n) (F.fl (X - 1)) w ek e0 e1 e2 e3 e4 sb n0 (decide_eq_true (by omega)) (decide_eq_false (by omega)) (Lib.hid h1) (Lib.hid rfl) (decide_eq_true (Int.ofNat_lt.2 hl)) (decide_eq_true (Int.ofNat_le.2 (Nat.le_of_lt hl))) T1 T2 T3
    · have x1 : F.tickV X = 18446744073709551615 := by unfold F.tickV; rw [if_pos tX, if_pos (by omega)]
      rw [x1] at T1
      by_cases h2 : n = 64
      · have y2 : F.tickV (X - 1) = 18446744073709549568 := by
          unfold F.tickV; rw [if_pos hY, if_neg (by omega), hX, h2]; exact F.pw_less64
        rw [y2] at T2
        exact powers_e k n _ X _ Z 0 18446744073709549568 w ek e0 e1 e2 e3 e4 sb n0 (decide_eq_false (by omega)) (decide_eq_false (by omega)) (by decide) (by decide) T1 T2 T3
      · have y2 : F.tickV (X - 1) = 18446744073709551615 := by unfold F.tickV; rw [if_pos hY, if_pos (by omega)]
        rw [y2] at T2
        exact powers_g k n _ X _ Z 0 18446744073709551615 w ek e0 e1 e2 e3 e4 sb n0 (decide_eq_false (by omega)) (decide_eq_true (by omega)) (by decide) T1 T2 T3

theorem TtlPowers_walk (a0 : Int) (w : World) (w0 : (Lit.int .u16 a0).wf = true) :
    Calls Try.prog 9 #[.int .u16 a0] w fun e w' => e = .returned (.bool true) ∧ Below w.heap.size w w' := by
  have h : IntKind.u16.min ≤ a0 ∧ a0 ≤ IntKind.u16.max := by simpa only [Lit.wf, Bool.and_eq_true, decide_eq_true_eq] using w0
  have e1 : IntKind.u16.min = 0 := by decide
  have e2 : IntKind.u16.max = 65535 := by decide
  rw [e1, e2] at h
  obtain ⟨p, rfl⟩ : ∃ p : Nat, a0 = (p : Int) := ⟨a0.toNat, by omega⟩
  exact powers_main p w (by omega)
end Go.Proofs.Ytgnmhepneahhdaa.L
