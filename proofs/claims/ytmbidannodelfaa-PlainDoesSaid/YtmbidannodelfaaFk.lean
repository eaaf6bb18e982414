/- The kind of any number, by its bits: the program's and the document's. -/
import Derived.Test.YtmbidannodelfaaGMisc
import Derived.Test.YtmbidannodelfaaFr
import Derived.WalkKit
import Derived.Laws.Rows
import Derived.Laws.FloatArith
import Derived.Laws.Externs
import Derived.Laws.Bits64b
import Derived.Lib.Hide
namespace Go.Proofs.Ytmbidannodelfaa.G
open Go.RowKit
set_option linter.unusedVariables false
set_option linter.unusedSimpArgs false

theorem ogt (x c : Nat) (hx : x < 18446744073709551616) (hn : x % 9223372036854775808 ≤ 9218868437227405312) (hc : c ≤ 9218868437227405312) : (FloatKind.f64.format.order x c == some .gt) = decide ((c : Int) < F.key x) := by
  have h : FloatKind.f64.format.order x c = some (compare (F.key x) (F.key c)) := F.order_key x c hx (by omega) hn (by omega)
  have hk : F.key c = c := by unfold F.key; rw [if_pos (by omega)]
  rw [h, hk, F.cmp_eq]
  by_cases h1 : F.key x < (c : Int)
  · rw [if_pos h1, decide_eq_false (by omega)]; rfl
  · rw [if_neg h1]
    by_cases h2 : F.key x = (c : Int)
    · rw [if_pos h2, decide_eq_false (by omega)]; rfl
    · rw [if_neg h2, decide_eq_true (by omega)]; rfl
theorem olt (x c : Nat) (hx : x < 18446744073709551616) (hn : x % 9223372036854775808 ≤ 9218868437227405312) (hc : c ≤ 9218868437227405312) : (FloatKind.f64.format.order x c == some .lt) = decide (F.key x < (c : Int)) := by
  have h : FloatKind.f64.format.order x c = some (compare (F.key x) (F.key c)) := F.order_key x c hx (by omega) hn (by omega)
  have hk : F.key c = c := by unfold F.key; rw [if_pos (by omega)]
  rw [h, hk, F.cmp_eq]
  by_cases h1 : F.key x < (c : Int)
  · rw [if_pos h1, decide_eq_true h1]; rfl
  · rw [if_neg h1, decide_eq_false h1]
    by_cases h2 : F.key x = (c : Int)
    · rw [if_pos h2]; rfl
    · rw [if_neg h2]; rfl
theorem onan (x c : Nat) (h : 9218868437227405312 < x % 9223372036854775808) : FloatKind.f64.format.order x c = none ∧ FloatKind.f64.format.order c x = none :=
  ⟨F.order_nan _ _ (Or.inl (F.read_nan x h)), F.order_nan _ _ (Or.inr (F.read_nan x h))⟩
theorem oeq (x : Nat) (hx : x < 18446744073709551616) (hn : x % 9223372036854775808 ≤ 9218868437227405312) : FloatKind.f64.format.order x x = some .eq := by
  have h : FloatKind.f64.format.order x x = some (compare (F.key x) (F.key x)) := F.order_key x x hx hx hn hn
  rw [h, F.cmp_eq, if_neg (by omega), if_pos rfl]
theorem negr (x : Nat) (W : World) : (Op.unary .neg (.float .f64 x)).run Try.prog W = .ok (.float .f64 (x ^^^ 9223372036854775808)) W := rfl
theorem bitsr (x : Nat) (W : World) : (callFunc 59 #[.float .f64 x]).run Try.prog W = .ok (.value (.int .u64 (x : Int))) W := by kernel_rfl

set_option maxRecDepth 100000 in
theorem kind_nan (x na : Nat) (w : World) (oxx : FloatKind.f64.format.order x x = none) (ng : ∀ W : World, (Op.unary .neg (.float .f64 x)).run Try.prog W = .ok (.float .f64 na) W) :
    Calls Try.prog 56 #[.float .f64 x] w fun e w' => e = .returned (.int .i64 0) ∧ w = w' := by
  have fb := bitsr x
  go_enter Try.func56, Try.ntmps56
  go_wp2
  go_ret
  exact ⟨rfl, rfl⟩
set_option maxRecDepth 100000 in
theorem kind_ninf (x na : Nat) (w : World) (oxx : FloatKind.f64.format.order x x = some .eq) (ng : ∀ W : World, (Op.unary .neg (.float .f64 x)).run Try.prog W = .ok (.float .f64 na) W) (q0 : (FloatKind.f64.format.order na 9218868437227405311 == some .gt) = true) :
    Calls Try.prog 56 #[.float .f64 x] w fun e w' => e = .returned (.int .i64 1) ∧ w = w' := by
  have fb := bitsr x
  go_enter Try.func56, Try.ntmps56
  go_wp2
  go_ret
  exact ⟨rfl, rfl⟩
set_option maxRecDepth 100000 in
theorem kind_low (x na : Nat) (w : World) (oxx : FloatKind.f64.format.order x x = some .eq) (ng : ∀ W : World, (Op.unary .neg (.float .f64 x)).run Try.prog W = .ok (.float .f64 na) W) (q0 : (FloatKind.f64.format.order na 9218868437227405311 == some .gt) = false) (q1 : (FloatKind.f64.format.order x 0 == some .lt) = true) :
    Calls Try.prog 56 #[.float .f64 x] w fun e w' => e = .returned (.int .i64 2) ∧ w = w' := by
  have fb := bitsr x
  go_enter Try.func56, Try.ntmps56
  go_wp2
  go_ret
  exact ⟨rfl, rfl⟩
set_option maxRecDepth 100000 in
theorem kind_inf (x na : Nat) (w : World) (oxx : FloatKind.f64.format.order x x = some .eq) (ng : ∀ W : World, (Op.unary .neg (.float .f64 x)).run Try.prog W = .ok (.float .f64 na) W) (q0 : (FloatKind.f64.format.order na 9218868437227405311 == some .gt) = false) (q1 : (FloatKind.f64.format.order x 0 == some .lt) = false) (q2 : (FloatKind.f64.format.order x 9218868437227405311 == some .gt) = true) :
    Calls Try.prog 56 #[.float .f64 x] w fun e w' => e = .returned (.int .i64 6) ∧ w = w' := by
  have fb := bitsr x
  go_enter Try.func56, Try.ntmps56
  go_wp2
  go_ret
  exact ⟨rfl, rfl⟩
set_option maxRecDepth 100000 in
theorem kind_pos (x na : Nat) (w : World) (oxx : FloatKind.f64.format.order x x = some .eq) (ng : ∀ W : World, (Op.unary .neg (.float .f64 x)).run Try.prog W = .ok (.float .f64 na) W) (q0 : (FloatKind.f64.format.order na 9218868437227405311 == some .gt) = false) (q1 : (FloatKind.f64.format.order x 0 == some .lt) = false) (q2 : (FloatKind.f64.format.order x 9218868437227405311 == some .gt) = false) (q3 : (FloatKind.f64.format.order x 0 == some .gt) = true) :
    Calls Try.prog 56 #[.float .f64 x] w fun e w' => e = .returned (.int .i64 5) ∧ w = w' := by
  have fb := bitsr x
  go_enter Try.func56, Try.ntmps56
  go_wp2
  go_ret
  exact ⟨rfl, rfl⟩
set_option maxRecDepth 100000 in
theorem kind_mz (x na : Nat) (w : World) (oxx : FloatKind.f64.format.order x x = some .eq) (ng : ∀ W : World, (Op.unary .neg (.float .f64 x)).run Try.prog W = .ok (.float .f64 na) W) (q0 : (FloatKind.f64.format.order na 9218868437227405311 == some .gt) = false) (q1 : (FloatKind.f64.format.order x 0 == some .lt) = false) (q2 : (FloatKind.f64.format.order x 9218868437227405311 == some .gt) = false) (q3 : (FloatKind.f64.format.order x 0 == some .gt) = false) (q4 : wrap64 (x : Int) < 0) :
    Calls Try.prog 56 #[.float .f64 x] w fun e w' => e = .returned (.int .i64 3) ∧ w = w' := by
  have fb := bitsr x
  go_enter Try.func56, Try.ntmps56
  go_wp2
  go_ret
  exact ⟨rfl, rfl⟩
set_option maxRecDepth 100000 in
theorem kind_z (x na : Nat) (w : World) (oxx : FloatKind.f64.format.order x x = some .eq) (ng : ∀ W : World, (Op.unary .neg (.float .f64 x)).run Try.prog W = .ok (.float .f64 na) W) (q0 : (FloatKind.f64.format.order na 9218868437227405311 == some .gt) = false) (q1 : (FloatKind.f64.format.order x 0 == some .lt) = false) (q2 : (FloatKind.f64.format.order x 9218868437227405311 == some .gt) = false) (q3 : (FloatKind.f64.format.order x 0 == some .gt) = false) (q4 : ¬ wrap64 (x : Int) < 0) :
    Calls Try.prog 56 #[.float .f64 x] w fun e w' => e = .returned (.int .i64 4) ∧ w = w' := by
  have fb := bitsr x
  go_enter Try.func56, Try.ntmps56
  go_wp2
  go_ret
  exact ⟨rfl, rfl⟩

theorem Kind_val (x : Nat) (w : World) (hx : x < 18446744073709551616) : Calls Try.prog 56 #[.float .f64 x] w fun e w' => e = .returned (.int .i64 (F.kindB x : Nat)) ∧ w = w' := by
  unfold F.kindB
  by_cases hn : 9218868437227405312 < x % 9223372036854775808
  · rw [if_pos hn]
    exact kind_nan x _ w (onan x x hn).1 (negr x)
  · rw [if_neg hn]
    have hn' : x % 9223372036854775808 ≤ 9218868437227405312 := by omega
    have oxx := oeq x hx hn'
    obtain ⟨na, hna⟩ : ∃ na, na = (x ^^^ 9223372036854775808) := ⟨_, rfl⟩
    have ng := negr x
    rw [← hna] at ng
    rw [F.neg_bits x hx] at hna
    have na1 : na < 18446744073709551616 ∧ na % 9223372036854775808 ≤ 9218868437227405312 := by
      by_cases h : x < 9223372036854775808
      · rw [if_pos h] at hna; omega
      · rw [if_neg h] at hna; omega
    have kk : ∀ z : Nat, (z < 9223372036854775808 ∧ F.key z = (z : Int)) ∨ (9223372036854775808 ≤ z ∧ F.key z = 9223372036854775808 - (z : Int)) := by
      intro z
      unfold F.key
      by_cases h : z < 9223372036854775808
      · left; exact ⟨h, by rw [if_pos h]⟩
      · right; exact ⟨by omega, by rw [if_neg h]⟩
    have kx := kk x
    have kn := kk na
    have q1 := ogt na 9218868437227405311 na1.1 na1.2 (by omega)
    have q2 := olt x 0 hx hn' (by omega)
    have q3 := ogt x 9218868437227405311 hx hn' (by omega)
    have q4 := ogt x 0 hx hn' (by omega)
    by_cases c1 : x = 18442240474082181120
    · rw [if_pos c1]
      exact kind_ninf x na w oxx ng (by rw [q1]; rw [if_neg (by omega)] at hna; exact decide_eq_true (by omega))
    rw [if_neg c1]
    have f1 : (FloatKind.f64.format.order na 9218868437227405311 == some .gt) = false := by
      rw [q1]; apply decide_eq_false
      by_cases h : x < 9223372036854775808
      · rw [if_pos h] at hna; omega
      · rw [if_neg h] at hna; omega
    by_cases c2 : x = 9218868437227405312
    · rw [if_pos c2]
      exact kind_inf x na w oxx ng f1 (by rw [q2]; exact decide_eq_false (by omega)) (by rw [q3]; exact decide_eq_true (by omega))
    rw [if_neg c2]
    have f3 : (FloatKind.f64.format.order x 9218868437227405311 == some .gt) = false := by rw [q3]; exact decide_eq_false (by omega)
    by_cases c3 : x = 9223372036854775808
    · rw [if_pos c3]
      exact kind_mz x na w oxx ng f1 (by rw [q2]; exact decide_eq_false (by omega)) f3 (by rw [q4]; exact decide_eq_false (by omega)) (by unfold wrap64; omega)
    rw [if_neg c3]
    by_cases c4 : x = 0
    · rw [if_pos c4]
      exact kind_z x na w oxx ng f1 (by rw [q2]; exact decide_eq_false (by omega)) f3 (by rw [q4]; exact decide_eq_false (by omega)) (by unfold wrap64; omega)
    rw [if_neg c4]
    by_cases c5 : 9223372036854775808 ≤ x
    · rw [if_pos c5]
      exact kind_low x na w oxx ng f1 (by rw [q2]; exact decide_eq_true (by omega))
    · rw [if_neg c5]
      exact kind_pos x na w oxx ng f1 (by rw [q2]; exact decide_eq_false (by omega)) f3 (by rw [q4]; exact decide_eq_true (by omega))

theorem kindB_of (x lo h2 k : Nat) (hx : x < 18446744073709551616) (e1 : lo = x % 4503599627370496) (e2 : h2 = x / 4503599627370496 % 2048)
    (h : (h2 = 2047 ∧ 0 < lo ∧ k = 0) ∨ (h2 = 2047 ∧ lo = 0 ∧ 9223372036854775808 ≤ x ∧ k = 1) ∨ (h2 = 2047 ∧ lo = 0 ∧ x < 9223372036854775808 ∧ k = 6) ∨ (h2 = 0 ∧ lo = 0 ∧ 9223372036854775808 ≤ x ∧ k = 3) ∨ (h2 = 0 ∧ lo = 0 ∧ x < 9223372036854775808 ∧ k = 4) ∨ (h2 ≠ 2047 ∧ ¬ (h2 = 0 ∧ lo = 0) ∧ 9223372036854775808 ≤ x ∧ k = 2) ∨ (h2 ≠ 2047 ∧ ¬ (h2 = 0 ∧ lo = 0) ∧ x < 9223372036854775808 ∧ k = 5)) : F.kindB x = k := by
  unfold F.kindB
  rcases h with ⟨a, b, c⟩ | ⟨a, b, d, c⟩ | ⟨a, b, d, c⟩ | ⟨a, b, d, c⟩ | ⟨a, b, d, c⟩ | ⟨a, b, d, c⟩ | ⟨a, b, d, c⟩ <;> subst c
  · rw [if_pos (by omega)]
  · rw [if_neg (by omega), if_pos (by omega)]
  · rw [if_neg (by omega), if_neg (by omega), if_pos (by omega)]
  · rw [if_neg (by omega), if_neg (by omega), if_neg (by omega), if_pos (by omega)]
  · rw [if_neg (by omega), if_neg (by omega), if_neg (by omega), if_neg (by omega), if_pos (by omega)]
  · rw [if_neg (by omega), if_neg (by omega), if_neg (by omega), if_neg (by omega), if_neg (by omega), if_pos (by omega)]
  · rw [if_neg (by omega), if_neg (by omega), if_neg (by omega), if_neg (by omega), if_neg (by omega), if_neg (by omega)]
set_option maxRecDepth 100000 in
theorem rkind_nan (x lo h2 : Nat) (hi : Int) (w : World) (el : (x : Int).tmod 4503599627370496 = (lo : Int)) (eq : IntKind.u64.wrap ((x : Int) / 4503599627370496) = hi) (eh : hi.tmod 2048 = 2047) (g0 : 0 < lo) :
    Calls Try.prog 50 #[.float .f64 x] w fun e w' => e = .returned (.int .i64 0) ∧ w = w' := by
  have fb := bitsr x
  go_enter Try.func50, Try.ntmps50
  go_wp2_with fail
  go_ret
  exact ⟨rfl, rfl⟩
set_option maxRecDepth 100000 in
theorem rkind_ninf (x lo h2 : Nat) (hi : Int) (w : World) (el : (x : Int).tmod 4503599627370496 = 0) (eq : IntKind.u64.wrap ((x : Int) / 4503599627370496) = hi) (eh : hi.tmod 2048 = 2047) (g0 : decide ((x : Int) ≥ 9223372036854775808) = true) :
    Calls Try.prog 50 #[.float .f64 x] w fun e w' => e = .returned (.int .i64 1) ∧ w = w' := by
  have fb := bitsr x
  go_enter Try.func50, Try.ntmps50
  go_wp2_with fail
  go_ret
  exact ⟨rfl, rfl⟩
set_option maxRecDepth 100000 in
theorem rkind_inf (x lo h2 : Nat) (hi : Int) (w : World) (el : (x : Int).tmod 4503599627370496 = 0) (eq : IntKind.u64.wrap ((x : Int) / 4503599627370496) = hi) (eh : hi.tmod 2048 = 2047) (g0 : decide ((x : Int) ≥ 9223372036854775808) = false) :
    Calls Try.prog 50 #[.float .f64 x] w fun e w' => e = .returned (.int .i64 6) ∧ w = w' := by
  have fb := bitsr x
  go_enter Try.func50, Try.ntmps50
  go_wp2_with fail
  go_ret
  exact ⟨rfl, rfl⟩
set_option maxRecDepth 100000 in
theorem rkind_mz (x lo h2 : Nat) (hi : Int) (w : World) (el : (x : Int).tmod 4503599627370496 = 0) (eq : IntKind.u64.wrap ((x : Int) / 4503599627370496) = hi) (eh : hi.tmod 2048 = 0) (g0 : decide ((x : Int) ≥ 9223372036854775808) = true) :
    Calls Try.prog 50 #[.float .f64 x] w fun e w' => e = .returned (.int .i64 3) ∧ w = w' := by
  have fb := bitsr x
  go_enter Try.func50, Try.ntmps50
  go_wp2_with fail
  go_ret
  exact ⟨rfl, rfl⟩
set_option maxRecDepth 100000 in
theorem rkind_z (x lo h2 : Nat) (hi : Int) (w : World) (el : (x : Int).tmod 4503599627370496 = 0) (eq : IntKind.u64.wrap ((x : Int) / 4503599627370496) = hi) (eh : hi.tmod 2048 = 0) (g0 : decide ((x : Int) ≥ 9223372036854775808) = false) :
    Calls Try.prog 50 #[.float .f64 x] w fun e w' => e = .returned (.int .i64 4) ∧ w = w' := by
  have fb := bitsr x
  go_enter Try.func50, Try.ntmps50
  go_wp2_with fail
  go_ret
  exact ⟨rfl, rfl⟩
set_option maxRecDepth 100000 in
theorem rkind_low0 (x lo h2 : Nat) (hi : Int) (w : World) (el : (x : Int).tmod 4503599627370496 = (lo : Int)) (eq : IntKind.u64.wrap ((x : Int) / 4503599627370496) = hi) (eh : hi.tmod 2048 = 0) (g0 : ((lo : Int) == 0) = false) (g1 : decide ((x : Int) ≥ 9223372036854775808) = true) :
    Calls Try.prog 50 #[.float .f64 x] w fun e w' => e = .returned (.int .i64 2) ∧ w = w' := by
  have fb := bitsr x
  go_enter Try.func50, Try.ntmps50
  go_wp2_with fail
  go_ret
  exact ⟨rfl, rfl⟩
set_option maxRecDepth 100000 in
theorem rkind_low (x lo h2 : Nat) (hi : Int) (w : World) (el : (x : Int).tmod 4503599627370496 = (lo : Int)) (eq : IntKind.u64.wrap ((x : Int) / 4503599627370496) = hi) (eh : hi.tmod 2048 = (h2 : Int)) (g0 : ((h2 : Int) == 2047) = false) (g1 : ((h2 : Int) == 0) = false) (g2 : decide ((x : Int) ≥ 9223372036854775808) = true) :
    Calls Try.prog 50 #[.float .f64 x] w fun e w' => e = .returned (.int .i64 2) ∧ w = w' := by
  have fb := bitsr x
  go_enter Try.func50, Try.ntmps50
  go_wp2_with fail
  go_ret
  exact ⟨rfl, rfl⟩
set_option maxRecDepth 100000 in
theorem rkind_pos0 (x lo h2 : Nat) (hi : Int) (w : World) (el : (x : Int).tmod 4503599627370496 = (lo : Int)) (eq : IntKind.u64.wrap ((x : Int) / 4503599627370496) = hi) (eh : hi.tmod 2048 = 0) (g0 : ((lo : Int) == 0) = false) (g1 : decide ((x : Int) ≥ 9223372036854775808) = false) :
    Calls Try.prog 50 #[.float .f64 x] w fun e w' => e = .returned (.int .i64 5) ∧ w = w' := by
  have fb := bitsr x
  go_enter Try.func50, Try.ntmps50
  go_wp2_with fail
  go_ret
  exact ⟨rfl, rfl⟩
set_option maxRecDepth 100000 in
theorem rkind_pos (x lo h2 : Nat) (hi : Int) (w : World) (el : (x : Int).tmod 4503599627370496 = (lo : Int)) (eq : IntKind.u64.wrap ((x : Int) / 4503599627370496) = hi) (eh : hi.tmod 2048 = (h2 : Int)) (g0 : ((h2 : Int) == 2047) = false) (g1 : ((h2 : Int) == 0) = false) (g2 : decide ((x : Int) ≥ 9223372036854775808) = false) :
    Calls Try.prog 50 #[.float .f64 x] w fun e w' => e = .returned (.int .i64 5) ∧ w = w' := by
  have fb := bitsr x
  go_enter Try.func50, Try.ntmps50
  go_wp2_with fail
  go_ret
  exact ⟨rfl, rfl⟩

theorem rKind_val (x : Nat) (w : World) (hx : x < 18446744073709551616) : Calls Try.prog 50 #[.float .f64 x] w fun e w' => e = .returned (.int .i64 (F.kindB x : Nat)) ∧ w = w' := by
  obtain ⟨lo, hlo⟩ : ∃ lo, lo = x % 4503599627370496 := ⟨_, rfl⟩
  obtain ⟨h2, hh2⟩ : ∃ h2, h2 = x / 4503599627370496 % 2048 := ⟨_, rfl⟩
  obtain ⟨hi, hhi⟩ : ∃ hi : Int, hi = ((x / 4503599627370496 : Nat) : Int) := ⟨_, rfl⟩
  have kof := kindB_of x lo h2
  have el : (x : Int).tmod 4503599627370496 = (lo : Int) := by rw [hlo]; exact (Int.ofNat_tmod x 4503599627370496).symm
  have eq : IntKind.u64.wrap ((x : Int) / 4503599627370496) = hi := by
    rw [hhi]
    show ((x : Int) / 4503599627370496) % 18446744073709551616 = _
    omega
  have eh : hi.tmod 2048 = (h2 : Int) := by rw [hhi, hh2]; exact (Int.ofNat_tmod (x / 4503599627370496) 2048).symm
  clear hhi
  by_cases a : h2 = 2047
  · have eh' : hi.tmod 2048 = 2047 := by rw [eh, a]; rfl
    by_cases b : lo = 0
    · have el' : (x : Int).tmod 4503599627370496 = 0 := by rw [el, b]; rfl
      by_cases c : 9223372036854775808 ≤ x
      · rw [kof 1 hx hlo hh2 (by clear el eq eh; omega)]
        exact rkind_ninf x 0 0 hi w el' eq eh' (decide_eq_true (by omega))
      · rw [kof 6 hx hlo hh2 (by clear el eq eh; omega)]
        exact rkind_inf x 0 0 hi w el' eq eh' (decide_eq_false (by omega))
    · rw [kof 0 hx hlo hh2 (by clear el eq eh; omega)]
      exact rkind_nan x lo 0 hi w el eq eh' (Nat.pos_of_ne_zero b)
  · by_cases a0 : h2 = 0
    · have eh' : hi.tmod 2048 = 0 := by rw [eh, a0]; rfl
      by_cases b : lo = 0
      · have el' : (x : Int).tmod 4503599627370496 = 0 := by rw [el, b]; rfl
        by_cases c : 9223372036854775808 ≤ x
        · rw [kof 3 hx hlo hh2 (by clear el eq eh; omega)]
          exact rkind_mz x 0 0 hi w el' eq eh' (decide_eq_true (by omega))
        · rw [kof 4 hx hlo hh2 (by clear el eq eh; omega)]
          exact rkind_z x 0 0 hi w el' eq eh' (decide_eq_false (by omega))
      · have bl : ((lo : Int) == 0) = false := by rw [beq_eq_false_iff_ne]; omega
        by_cases c : 9223372036854775808 ≤ x
        · rw [kof 2 hx hlo hh2 (by clear el eq eh; omega)]
          exact rkind_low0 x lo 0 hi w el eq eh' bl (decide_eq_true (by omega))
        · rw [kof 5 hx hlo hh2 (by clear el eq eh; omega)]
          exact rkind_pos0 x lo 0 hi w el eq eh' bl (decide_eq_false (by omega))
    · have a1 : ((h2 : Int) == 2047) = false := by rw [beq_eq_false_iff_ne]; omega
      have a2 : ((h2 : Int) == 0) = false := by rw [beq_eq_false_iff_ne]; omega
      by_cases c : 9223372036854775808 ≤ x
      · rw [kof 2 hx hlo hh2 (by clear el eq eh; omega)]
        exact rkind_low x lo h2 hi w el eq eh a1 a2 (decide_eq_true (by omega))
      · rw [kof 5 hx hlo hh2 (by clear el eq eh; omega)]
        exact rkind_pos x lo h2 hi w el eq eh a1 a2 (decide_eq_false (by omega))
end Go.Proofs.Ytmbidannodelfaa.G
