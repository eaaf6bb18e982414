/- Whether a conf may be, how many sectors it needs, its quota, its bound: the program's and the document's. -/
import Derived.Test.YtpnehpkecfbneaaHh
import Derived.Test.YtpnehpkecfbneaaFu
import Derived.Test.YtpnehpkecfbneaaFw
namespace Go.Proofs.Ytpnehpkecfbneaa.G
open Go.RowKit
set_option linter.unusedVariables false
set_option linter.unusedSimpArgs false

def okX (x : Nat) : Prop := x ≤ 4607182418800017408 ∨ x = 9223372036854775808
instance (x : Nat) : Decidable (okX x) := by unfold okX; infer_instance
def may (s n r : Int) (x : Nat) : Prop := okConf s n r ∧ okX x
instance (s n r : Int) (x : Nat) : Decidable (may s n r x) := by unfold may; infer_instance
def cE (s n r : Int) (x : Nat) : Int := if may s n r x then 0 else 1
def secV (s n r : Int) (x : Nat) : Int := if may s n r x then 2 + s * (n + 1) else 0
def quoV (s n r : Int) (x : Nat) : Int := if may s n r x then ((F.shV x ((s - 2) * n) : Nat) : Int) else 0
def bouV (s n r : Int) (x : Nat) : Int := if may s n r x then 3 * (1 + (s - 1) * (n + 2)) else 0

theorem Conf_v (s n r : Int) (x : Nat) (w : World) (hx : x < 18446744073709551616) : Calls Try.prog 12 #[.agg #[.int .i64 s, .int .i64 n, .float .f64 x, .int .i64 r]] w fun e w' => e = .returned (.int .i64 (cE s n r x)) ∧ Below w.heap.size w w' := by
  refine Conf_val s n r ((F.shE x 1 : Nat) : Int) ((F.shV x 1 : Nat) : Int) (cE s n r x) x w (fun _ W => Share_val x 1 W hx (by omega)) (Lib.hid ?_)
  unfold cE
  by_cases h : okConf s n r
  · rw [if_pos h]
    by_cases h2 : okX x
    · rw [if_pos (show may s n r x from ⟨h, h2⟩)]
      have : F.shareable x 1 := by unfold F.shareable; unfold okX at h2; exact ⟨h2, by omega, by omega⟩
      unfold F.shE; rw [if_pos this]; rfl
    · rw [if_neg (show ¬ may s n r x from fun c => h2 c.2)]
      have : ¬ F.shareable x 1 := fun c => h2 (by unfold F.shareable at c; unfold okX; exact c.1)
      unfold F.shE; rw [if_neg this]; rfl
  · rw [if_neg h, if_neg (show ¬ may s n r x from fun c => h c.1)]

theorem mul_in (s n : Int) (h : 4 ≤ s ∧ s ≤ 16) (h2 : 1 ≤ n ∧ n ≤ 30) : 0 ≤ (s - 2) * n ∧ (s - 2) * n ≤ 420 :=
  ⟨Int.mul_nonneg (by omega) (by omega), by have : (s - 2) * n ≤ 14 * 30 := Int.mul_le_mul (by omega) (by omega) (by omega) (by omega); omega⟩
theorem shE_of (x : Nat) (m : Int) (h : okX x) (h0 : 0 ≤ m) (h1 : m ≤ 100000) : F.shE x m = 0 := by
  have : F.shareable x m := by unfold F.shareable; unfold okX at h; exact ⟨h, h0, h1⟩
  unfold F.shE; rw [if_pos this]
theorem Sectors_v (s n r : Int) (x : Nat) (w : World) (hx : x < 18446744073709551616) : Calls Try.prog 14 #[.agg #[.int .i64 s, .int .i64 n, .float .f64 x, .int .i64 r]] w fun e w' => e = .returned (.int .i64 (secV s n r x)) ∧ Below w.heap.size w w' := by
  unfold secV
  by_cases h : may s n r x
  · rw [if_pos h]
    have e1 : cE s n r x = 0 := by unfold cE; rw [if_pos h]
    exact Sectors_ok s n r x w (fun W => by have := Conf_v s n r x W hx; rw [e1] at this; exact this) h.1
  · rw [if_neg h]
    have e1 : cE s n r x = 1 := by unfold cE; rw [if_neg h]
    exact Sectors_no s n r x w (fun W => by have := Conf_v s n r x W hx; rw [e1] at this; exact this)

theorem Bound_v (s n r : Int) (x : Nat) (w : World) (hx : x < 18446744073709551616) : Calls Try.prog 18 #[.agg #[.int .i64 s, .int .i64 n, .float .f64 x, .int .i64 r]] w fun e w' => e = .returned (.int .i64 (bouV s n r x)) ∧ Below w.heap.size w w' := by
  unfold bouV
  by_cases h : may s n r x
  · rw [if_pos h]
    have e1 : cE s n r x = 0 := by unfold cE; rw [if_pos h]
    exact Bound_ok s n r x w (fun W => by have := Conf_v s n r x W hx; rw [e1] at this; exact this) h.1
  · rw [if_neg h]
    have e1 : cE s n r x = 1 := by unfold cE; rw [if_neg h]
    exact Bound_no s n r x w (fun W => by have := Conf_v s n r x W hx; rw [e1] at this; exact this)

theorem Quota_v (s n r : Int) (x : Nat) (w : World) (hx : x < 18446744073709551616) : Calls Try.prog 16 #[.agg #[.int .i64 s, .int .i64 n, .float .f64 x, .int .i64 r]] w fun e w' => e = .returned (.int .i64 (quoV s n r x)) ∧ Below w.heap.size w w' := by
  unfold quoV
  by_cases h : may s n r x
  · rw [if_pos h]
    have e1 : cE s n r x = 0 := by unfold cE; rw [if_pos h]
    exact Quota_ok s n r x w (fun W => by have := Conf_v s n r x W hx; rw [e1] at this; exact this) h.1 _ ((s - 2) * n) (Lib.hid rfl) (Lib.hid (fun W => by
      have hm := mul_in s n h.1.1 h.1.2.1
      have := Share_val x ((s - 2) * n) W hx (by omega)
      rw [shE_of x _ h.2 hm.1 (by omega)] at this
      exact this))
  · rw [if_neg h]
    have e1 : cE s n r x = 1 := by unfold cE; rw [if_neg h]
    exact Quota_no s n r x w (fun W => by have := Conf_v s n r x W hx; rw [e1] at this; exact this)

set_option maxRecDepth 100000 in
theorem may_s0 (s n r K : Int) (x : Nat) (w : World) (s0 : decide (s ≥ 4) = false) (hk : KindC 21 x K) :
    Calls Try.prog 27 #[.agg #[.int .i64 s, .int .i64 n, .float .f64 x, .int .i64 r]] w fun e w' => e = .returned (.bool false) ∧ Below w.heap.size w w' := by
  have hn := heap_alloc_new w (.cells #[.int .i64 s, .int .i64 n, .float .f64 x, .int .i64 r] 24)
  have hb0 := (Below.refl w.heap.size w).alloc (Nat.le_refl _) (.cells #[.int .i64 s, .int .i64 n, .float .f64 x, .int .i64 r] 24)
  obtain ⟨c0, c1, c2, c3⟩ := cells4 hn
  have HN := Lib.hid hn
  have HB0 := Lib.hid hb0
  clear hn hb0
  go_enter Try.func27, Try.ntmps27
  go_wp2_with fail
  refine (hk.out _).mono ?_; rintro e w1 ⟨rfl, rfl⟩
  go_wp2_with fail
  go_ret
  exact ⟨rfl, HB0.out⟩
set_option maxRecDepth 100000 in
theorem may_s1 (s n r K : Int) (x : Nat) (w : World) (s0 : decide (s ≥ 4) = true) (s1 : decide (s ≤ 16) = false) (hk : KindC 21 x K) :
    Calls Try.prog 27 #[.agg #[.int .i64 s, .int .i64 n, .float .f64 x, .int .i64 r]] w fun e w' => e = .returned (.bool false) ∧ Below w.heap.size w w' := by
  have hn := heap_alloc_new w (.cells #[.int .i64 s, .int .i64 n, .float .f64 x, .int .i64 r] 24)
  have hb0 := (Below.refl w.heap.size w).alloc (Nat.le_refl _) (.cells #[.int .i64 s, .int .i64 n, .float .f64 x, .int .i64 r] 24)
  obtain ⟨c0, c1, c2, c3⟩ := cells4 hn
  have HN := Lib.hid hn
  have HB0 := Lib.hid hb0
  clear hn hb0
  go_enter Try.func27, Try.ntmps27
  go_wp2_with fail
  refine (hk.out _).mono ?_; rintro e w1 ⟨rfl, rfl⟩
  go_wp2_with fail
  go_ret
  exact ⟨rfl, HB0.out⟩
set_option maxRecDepth 100000 in
theorem may_n0 (s n r K : Int) (x : Nat) (w : World) (s0 : decide (s ≥ 4) = true) (s1 : decide (s ≤ 16) = true) (n0 : decide (n ≥ 1) = false) (hk : KindC 21 x K) :
    Calls Try.prog 27 #[.agg #[.int .i64 s, .int .i64 n, .float .f64 x, .int .i64 r]] w fun e w' => e = .returned (.bool false) ∧ Below w.heap.size w w' := by
  have hn := heap_alloc_new w (.cells #[.int .i64 s, .int .i64 n, .float .f64 x, .int .i64 r] 24)
  have hb0 := (Below.refl w.heap.size w).alloc (Nat.le_refl _) (.cells #[.int .i64 s, .int .i64 n, .float .f64 x, .int .i64 r] 24)
  obtain ⟨c0, c1, c2, c3⟩ := cells4 hn
  have HN := Lib.hid hn
  have HB0 := Lib.hid hb0
  clear hn hb0
  go_enter Try.func27, Try.ntmps27
  go_wp2_with fail
  refine (hk.out _).mono ?_; rintro e w1 ⟨rfl, rfl⟩
  go_wp2_with fail
  go_ret
  exact ⟨rfl, HB0.out⟩
set_option maxRecDepth 100000 in
theorem may_n1 (s n r K : Int) (x : Nat) (w : World) (s0 : decide (s ≥ 4) = true) (s1 : decide (s ≤ 16) = true) (n0 : decide (n ≥ 1) = true) (n1 : decide (n ≤ 30) = false) (hk : KindC 21 x K) :
    Calls Try.prog 27 #[.agg #[.int .i64 s, .int .i64 n, .float .f64 x, .int .i64 r]] w fun e w' => e = .returned (.bool false) ∧ Below w.heap.size w w' := by
  have hn := heap_alloc_new w (.cells #[.int .i64 s, .int .i64 n, .float .f64 x, .int .i64 r] 24)
  have hb0 := (Below.refl w.heap.size w).alloc (Nat.le_refl _) (.cells #[.int .i64 s, .int .i64 n, .float .f64 x, .int .i64 r] 24)
  obtain ⟨c0, c1, c2, c3⟩ := cells4 hn
  have HN := Lib.hid hn
  have HB0 := Lib.hid hb0
  clear hn hb0
  go_enter Try.func27, Try.ntmps27
  go_wp2_with fail
  refine (hk.out _).mono ?_; rintro e w1 ⟨rfl, rfl⟩
  go_wp2_with fail
  go_ret
  exact ⟨rfl, HB0.out⟩
set_option maxRecDepth 100000 in
theorem may_r0 (s n r K : Int) (x : Nat) (w : World) (s0 : decide (s ≥ 4) = true) (s1 : decide (s ≤ 16) = true) (n0 : decide (n ≥ 1) = true) (n1 : decide (n ≤ 30) = true) (r0 : decide (r ≥ 0) = false) (hk : KindC 21 x K) :
    Calls Try.prog 27 #[.agg #[.int .i64 s, .int .i64 n, .float .f64 x, .int .i64 r]] w fun e w' => e = .returned (.bool false) ∧ Below w.heap.size w w' := by
  have hn := heap_alloc_new w (.cells #[.int .i64 s, .int .i64 n, .float .f64 x, .int .i64 r] 24)
  have hb0 := (Below.refl w.heap.size w).alloc (Nat.le_refl _) (.cells #[.int .i64 s, .int .i64 n, .float .f64 x, .int .i64 r] 24)
  obtain ⟨c0, c1, c2, c3⟩ := cells4 hn
  have HN := Lib.hid hn
  have HB0 := Lib.hid hb0
  clear hn hb0
  go_enter Try.func27, Try.ntmps27
  go_wp2_with fail
  refine (hk.out _).mono ?_; rintro e w1 ⟨rfl, rfl⟩
  go_wp2_with fail
  go_ret
  exact ⟨rfl, HB0.out⟩
set_option maxRecDepth 100000 in
theorem may_r1 (s n r K : Int) (x : Nat) (w : World) (s0 : decide (s ≥ 4) = true) (s1 : decide (s ≤ 16) = true) (n0 : decide (n ≥ 1) = true) (n1 : decide (n ≤ 30) = true) (r0 : decide (r ≥ 0) = true) (r1 : decide (r ≤ 8) = false) (hk : KindC 21 x K) :
    Calls Try.prog 27 #[.agg #[.int .i64 s, .int .i64 n, .float .f64 x, .int .i64 r]] w fun e w' => e = .returned (.bool false) ∧ Below w.heap.size w w' := by
  have hn := heap_alloc_new w (.cells #[.int .i64 s, .int .i64 n, .float .f64 x, .int .i64 r] 24)
  have hb0 := (Below.refl w.heap.size w).alloc (Nat.le_refl _) (.cells #[.int .i64 s, .int .i64 n, .float .f64 x, .int .i64 r] 24)
  obtain ⟨c0, c1, c2, c3⟩ := cells4 hn
  have HN := Lib.hid hn
  have HB0 := Lib.hid hb0
  clear hn hb0
  go_enter Try.func27, Try.ntmps27
  go_wp2_with fail
  refine (hk.out _).mono ?_; rintro e w1 ⟨rfl, rfl⟩
  go_wp2_with fail
  go_ret
  exact ⟨rfl, HB0.out⟩
set_option maxRecDepth 100000 in
theorem may_k3 (s n r K : Int) (x : Nat) (w : World) (s0 : decide (s ≥ 4) = true) (s1 : decide (s ≤ 16) = true) (n0 : decide (n ≥ 1) = true) (n1 : decide (n ≤ 30) = true) (r0 : decide (r ≥ 0) = true) (r1 : decide (r ≤ 8) = true) (k3 : (K == 3) = true) (hk : KindC 21 x K) :
    Calls Try.prog 27 #[.agg #[.int .i64 s, .int .i64 n, .float .f64 x, .int .i64 r]] w fun e w' => e = .returned (.bool true) ∧ Below w.heap.size w w' := by
  have hn := heap_alloc_new w (.cells #[.int .i64 s, .int .i64 n, .float .f64 x, .int .i64 r] 24)
  have hb0 := (Below.refl w.heap.size w).alloc (Nat.le_refl _) (.cells #[.int .i64 s, .int .i64 n, .float .f64 x, .int .i64 r] 24)
  obtain ⟨c0, c1, c2, c3⟩ := cells4 hn
  have HN := Lib.hid hn
  have HB0 := Lib.hid hb0
  clear hn hb0
  go_enter Try.func27, Try.ntmps27
  go_wp2_with fail
  refine (hk.out _).mono ?_; rintro e w1 ⟨rfl, rfl⟩
  go_wp2_with fail
  go_ret
  exact ⟨rfl, HB0.out⟩
set_option maxRecDepth 100000 in
theorem may_k4 (s n r K : Int) (x : Nat) (w : World) (s0 : decide (s ≥ 4) = true) (s1 : decide (s ≤ 16) = true) (n0 : decide (n ≥ 1) = true) (n1 : decide (n ≤ 30) = true) (r0 : decide (r ≥ 0) = true) (r1 : decide (r ≤ 8) = true) (k3 : (K == 3) = false) (k4 : (K == 4) = true) (hk : KindC 21 x K) :
    Calls Try.prog 27 #[.agg #[.int .i64 s, .int .i64 n, .float .f64 x, .int .i64 r]] w fun e w' => e = .returned (.bool true) ∧ Below w.heap.size w w' := by
  have hn := heap_alloc_new w (.cells #[.int .i64 s, .int .i64 n, .float .f64 x, .int .i64 r] 24)
  have hb0 := (Below.refl w.heap.size w).alloc (Nat.le_refl _) (.cells #[.int .i64 s, .int .i64 n, .float .f64 x, .int .i64 r] 24)
  obtain ⟨c0, c1, c2, c3⟩ := cells4 hn
  have HN := Lib.hid hn
  have HB0 := Lib.hid hb0
  clear hn hb0
  go_enter Try.func27, Try.ntmps27
  go_wp2_with fail
  refine (hk.out _).mono ?_; rintro e w1 ⟨rfl, rfl⟩
  go_wp2_with fail
  go_ret
  exact ⟨rfl, HB0.out⟩
set_option maxRecDepth 100000 in
theorem may_k5 (s n r K : Int) (x : Nat) (w : World) (s0 : decide (s ≥ 4) = true) (s1 : decide (s ≤ 16) = true) (n0 : decide (n ≥ 1) = true) (n1 : decide (n ≤ 30) = true) (r0 : decide (r ≥ 0) = true) (r1 : decide (r ≤ 8) = true) (k3 : (K == 3) = false) (k4 : (K == 4) = false) (k5 : (K == 5) = true) (le : (FloatKind.f64.format.order x 4607182418800017408 == some .lt || FloatKind.f64.format.order x 4607182418800017408 == some .eq) = true) (hk : KindC 21 x K) :
    Calls Try.prog 27 #[.agg #[.int .i64 s, .int .i64 n, .float .f64 x, .int .i64 r]] w fun e w' => e = .returned (.bool true) ∧ Below w.heap.size w w' := by
  have hn := heap_alloc_new w (.cells #[.int .i64 s, .int .i64 n, .float .f64 x, .int .i64 r] 24)
  have hb0 := (Below.refl w.heap.size w).alloc (Nat.le_refl _) (.cells #[.int .i64 s, .int .i64 n, .float .f64 x, .int .i64 r] 24)
  obtain ⟨c0, c1, c2, c3⟩ := cells4 hn
  have HN := Lib.hid hn
  have HB0 := Lib.hid hb0
  clear hn hb0
  go_enter Try.func27, Try.ntmps27
  go_wp2_with fail
  refine (hk.out _).mono ?_; rintro e w1 ⟨rfl, rfl⟩
  go_wp2_with fail
  go_ret
  exact ⟨rfl, HB0.out⟩
set_option maxRecDepth 100000 in
theorem may_k5n (s n r K : Int) (x : Nat) (w : World) (s0 : decide (s ≥ 4) = true) (s1 : decide (s ≤ 16) = true) (n0 : decide (n ≥ 1) = true) (n1 : decide (n ≤ 30) = true) (r0 : decide (r ≥ 0) = true) (r1 : decide (r ≤ 8) = true) (k3 : (K == 3) = false) (k4 : (K == 4) = false) (k5 : (K == 5) = true) (le : (FloatKind.f64.format.order x 4607182418800017408 == some .lt || FloatKind.f64.format.order x 4607182418800017408 == some .eq) = false) (hk : KindC 21 x K) :
    Calls Try.prog 27 #[.agg #[.int .i64 s, .int .i64 n, .float .f64 x, .int .i64 r]] w fun e w' => e = .returned (.bool false) ∧ Below w.heap.size w w' := by
  have hn := heap_alloc_new w (.cells #[.int .i64 s, .int .i64 n, .float .f64 x, .int .i64 r] 24)
  have hb0 := (Below.refl w.heap.size w).alloc (Nat.le_refl _) (.cells #[.int .i64 s, .int .i64 n, .float .f64 x, .int .i64 r] 24)
  obtain ⟨c0, c1, c2, c3⟩ := cells4 hn
  have HN := Lib.hid hn
  have HB0 := Lib.hid hb0
  clear hn hb0
  go_enter Try.func27, Try.ntmps27
  go_wp2_with fail
  refine (hk.out _).mono ?_; rintro e w1 ⟨rfl, rfl⟩
  go_wp2_with fail
  go_ret
  exact ⟨rfl, HB0.out⟩
set_option maxRecDepth 100000 in
theorem may_kn (s n r K : Int) (x : Nat) (w : World) (s0 : decide (s ≥ 4) = true) (s1 : decide (s ≤ 16) = true) (n0 : decide (n ≥ 1) = true) (n1 : decide (n ≤ 30) = true) (r0 : decide (r ≥ 0) = true) (r1 : decide (r ≤ 8) = true) (k3 : (K == 3) = false) (k4 : (K == 4) = false) (k5 : (K == 5) = false) (hk : KindC 21 x K) :
    Calls Try.prog 27 #[.agg #[.int .i64 s, .int .i64 n, .float .f64 x, .int .i64 r]] w fun e w' => e = .returned (.bool false) ∧ Below w.heap.size w w' := by
  have hn := heap_alloc_new w (.cells #[.int .i64 s, .int .i64 n, .float .f64 x, .int .i64 r] 24)
  have hb0 := (Below.refl w.heap.size w).alloc (Nat.le_refl _) (.cells #[.int .i64 s, .int .i64 n, .float .f64 x, .int .i64 r] 24)
  obtain ⟨c0, c1, c2, c3⟩ := cells4 hn
  have HN := Lib.hid hn
  have HB0 := Lib.hid hb0
  clear hn hb0
  go_enter Try.func27, Try.ntmps27
  go_wp2_with fail
  refine (hk.out _).mono ?_; rintro e w1 ⟨rfl, rfl⟩
  go_wp2_with fail
  go_ret
  exact ⟨rfl, HB0.out⟩
/-- the kind of a number tells whether it may be a share -/
theorem kind_ok (x : Nat) (hx : x < 18446744073709551616) : (F.kindB x = 3 ∧ okX x) ∨ (F.kindB x = 4 ∧ okX x) ∨ (F.kindB x = 5 ∧ x < 9218868437227405312 ∧ (okX x ↔ x ≤ 4607182418800017408)) ∨ ((F.kindB x < 3 ∨ F.kindB x = 6) ∧ ¬ okX x) := by
  unfold okX F.kindB
  by_cases a1 : 9218868437227405312 < x % 9223372036854775808
  · rw [if_pos a1]; right; right; right; omega
  rw [if_neg a1]
  by_cases a2 : x = 18442240474082181120
  · rw [if_pos a2]; right; right; right; omega
  rw [if_neg a2]
  by_cases a3 : x = 9218868437227405312
  · rw [if_pos a3]; right; right; right; omega
  rw [if_neg a3]
  by_cases a4 : x = 9223372036854775808
  · rw [if_pos a4]; left; omega
  rw [if_neg a4]
  by_cases a5 : x = 0
  · rw [if_pos a5]; right; left; omega
  rw [if_neg a5]
  by_cases a6 : 9223372036854775808 ≤ x
  · rw [if_pos a6]; right; right; right; omega
  rw [if_neg a6]; right; right; left
  refine ⟨rfl, by omega, by omega⟩
theorem leq_one (x : Nat) (hx : x < 9218868437227405312) : (FloatKind.f64.format.order x 4607182418800017408 == some .lt || FloatKind.f64.format.order x 4607182418800017408 == some .eq) = decide (x ≤ 4607182418800017408) := by
  rw [ord3 x 4607182418800017408 (by omega) (by omega)]
  by_cases h : x < 4607182418800017408
  · rw [if_pos h, decide_eq_true (show x ≤ 4607182418800017408 by omega)]; rfl
  · rw [if_neg h]
    by_cases h2 : x = 4607182418800017408
    · rw [if_pos h2, decide_eq_true (show x ≤ 4607182418800017408 by omega)]; rfl
    · rw [if_neg h2, decide_eq_false (show ¬ x ≤ 4607182418800017408 by omega)]; rfl
theorem rMay_v (s n r : Int) (x : Nat) (w : World) (hx : x < 18446744073709551616) : Calls Try.prog 27 #[.agg #[.int .i64 s, .int .i64 n, .float .f64 x, .int .i64 r]] w fun e w' => e = .returned (.bool (decide (may s n r x))) ∧ Below w.heap.size w w' := by
  have hk : KindC 21 x ((F.kindB x : Nat) : Int) := Lib.hid (fun W => rKind_val x W hx)
  by_cases h : okConf s n r
  · have h' := h
    obtain ⟨⟨a1, a2⟩, ⟨a3, a4⟩, a5, a6⟩ := h'
    rcases kind_ok x hx with ⟨k, o⟩ | ⟨k, o⟩ | ⟨k, hl, o⟩ | ⟨k, o⟩
    · rw [k] at hk
      rw [decide_eq_true (show may s n r x from ⟨h, o⟩)]
      exact may_k3 s n r _ x w (decide_eq_true (by omega)) (decide_eq_true (by omega)) (decide_eq_true (by omega)) (decide_eq_true (by omega)) (decide_eq_true (by omega)) (decide_eq_true (by omega)) rfl hk
    · rw [k] at hk
      rw [decide_eq_true (show may s n r x from ⟨h, o⟩)]
      exact may_k4 s n r _ x w (decide_eq_true (by omega)) (decide_eq_true (by omega)) (decide_eq_true (by omega)) (decide_eq_true (by omega)) (decide_eq_true (by omega)) (decide_eq_true (by omega)) rfl rfl hk
    · rw [k] at hk
      have le := leq_one x hl
      by_cases c : x ≤ 4607182418800017408
      · rw [decide_eq_true c] at le
        rw [decide_eq_true (show may s n r x from ⟨h, o.2 c⟩)]
        exact may_k5 s n r _ x w (decide_eq_true (by omega)) (decide_eq_true (by omega)) (decide_eq_true (by omega)) (decide_eq_true (by omega)) (decide_eq_true (by omega)) (decide_eq_true (by omega)) rfl rfl rfl le hk
      · rw [decide_eq_false c] at le
        rw [decide_eq_false (show ¬ may s n r x from fun d => c (o.1 d.2))]
        exact may_k5n s n r _ x w (decide_eq_true (by omega)) (decide_eq_true (by omega)) (decide_eq_true (by omega)) (decide_eq_true (by omega)) (decide_eq_true (by omega)) (decide_eq_true (by omega)) rfl rfl rfl le hk
    · rw [decide_eq_false (show ¬ may s n r x from fun d => o d.2)]
      obtain ⟨K, hK⟩ : ∃ K, K = F.kindB x := ⟨_, rfl⟩
      rw [← hK] at hk k
      clear hK
      exact may_kn s n r _ x w (decide_eq_true (by omega)) (decide_eq_true (by omega)) (decide_eq_true (by omega)) (decide_eq_true (by omega)) (decide_eq_true (by omega)) (decide_eq_true (by omega)) (by rw [beq_eq_false_iff_ne]; omega) (by rw [beq_eq_false_iff_ne]; omega) (by rw [beq_eq_false_iff_ne]; omega) hk
  · rw [decide_eq_false (show ¬ may s n r x from fun d => h d.1)]
    unfold okConf at h
    by_cases q0 : 4 ≤ s
    case neg => exact may_s0 s n r _ x w (decide_eq_false q0) hk
    by_cases q1 : s ≤ 16
    case neg => exact may_s1 s n r _ x w (decide_eq_true q0) (decide_eq_false q1) hk
    by_cases q2 : 1 ≤ n
    case neg => exact may_n0 s n r _ x w (decide_eq_true q0) (decide_eq_true q1) (decide_eq_false q2) hk
    by_cases q3 : n ≤ 30
    case neg => exact may_n1 s n r _ x w (decide_eq_true q0) (decide_eq_true q1) (decide_eq_true q2) (decide_eq_false q3) hk
    by_cases q4 : 0 ≤ r
    case neg => exact may_r0 s n r _ x w (decide_eq_true q0) (decide_eq_true q1) (decide_eq_true q2) (decide_eq_true q3) (decide_eq_false q4) hk
    by_cases q5 : r ≤ 8
    case neg => exact may_r1 s n r _ x w (decide_eq_true q0) (decide_eq_true q1) (decide_eq_true q2) (decide_eq_true q3) (decide_eq_true q4) (decide_eq_false q5) hk
    exact absurd ⟨⟨q0, q1⟩, ⟨q2, q3⟩, q4, q5⟩ h
set_option maxRecDepth 100000 in
theorem rConf_true (s n r : Int) (x : Nat) (w : World) (hM : Hid (∀ W, Calls Try.prog 27 #[.agg #[.int .i64 s, .int .i64 n, .float .f64 x, .int .i64 r]] W fun e w' => e = .returned (.bool true) ∧ Below W.heap.size W w'))  :
    Calls Try.prog 13 #[.agg #[.int .i64 s, .int .i64 n, .float .f64 x, .int .i64 r]] w fun e w' => e = .returned (.int .i64 (0)) ∧ Below w.heap.size w w' := by
  have hn := heap_alloc_new w (.cells #[.int .i64 s, .int .i64 n, .float .f64 x, .int .i64 r] 24)
  have hb0 := (Below.refl w.heap.size w).alloc (Nat.le_refl _) (.cells #[.int .i64 s, .int .i64 n, .float .f64 x, .int .i64 r] 24)
  have HN := Lib.hid hn
  have HB0 := Lib.hid hb0
  clear hn hb0
  go_enter Try.func13, Try.ntmps13
  obtain ⟨c0, c1, c2, c3⟩ := cells4 HN.out
  go_wp2_with fail
  refine (hM.out _).mono ?_; rintro e w1 ⟨rfl, hb1⟩
  clear c0 c1 c2 c3
  obtain ⟨c0, c1, c2, c3⟩ := cells4 ((hb1.block _ (lt_of_row' HN.out)).trans HN.out)
  go_wp2_with fail
  go_ret
  exact ⟨rfl, below_step HB0.out hb1⟩
set_option maxRecDepth 100000 in
theorem rConf_false (s n r : Int) (x : Nat) (w : World) (hM : Hid (∀ W, Calls Try.prog 27 #[.agg #[.int .i64 s, .int .i64 n, .float .f64 x, .int .i64 r]] W fun e w' => e = .returned (.bool false) ∧ Below W.heap.size W w'))  :
    Calls Try.prog 13 #[.agg #[.int .i64 s, .int .i64 n, .float .f64 x, .int .i64 r]] w fun e w' => e = .returned (.int .i64 (1)) ∧ Below w.heap.size w w' := by
  have hn := heap_alloc_new w (.cells #[.int .i64 s, .int .i64 n, .float .f64 x, .int .i64 r] 24)
  have hb0 := (Below.refl w.heap.size w).alloc (Nat.le_refl _) (.cells #[.int .i64 s, .int .i64 n, .float .f64 x, .int .i64 r] 24)
  have HN := Lib.hid hn
  have HB0 := Lib.hid hb0
  clear hn hb0
  go_enter Try.func13, Try.ntmps13
  obtain ⟨c0, c1, c2, c3⟩ := cells4 HN.out
  go_wp2_with fail
  refine (hM.out _).mono ?_; rintro e w1 ⟨rfl, hb1⟩
  clear c0 c1 c2 c3
  obtain ⟨c0, c1, c2, c3⟩ := cells4 ((hb1.block _ (lt_of_row' HN.out)).trans HN.out)
  go_wp2_with fail
  go_ret
  exact ⟨rfl, below_step HB0.out hb1⟩
theorem rConf_v (s n r : Int) (x : Nat) (w : World) (hx : x < 18446744073709551616) : Calls Try.prog 13 #[.agg #[.int .i64 s, .int .i64 n, .float .f64 x, .int .i64 r]] w fun e w' => e = .returned (.int .i64 (cE s n r x)) ∧ Below w.heap.size w w' := by
  unfold cE
  by_cases h : may s n r x
  · rw [if_pos h]
    exact rConf_true s n r x w (Lib.hid (fun W => by have := rMay_v s n r x W hx; rw [decide_eq_true h] at this; exact this)) 
  · rw [if_neg h]
    exact rConf_false s n r x w (Lib.hid (fun W => by have := rMay_v s n r x W hx; rw [decide_eq_false h] at this; exact this))

set_option maxRecDepth 100000 in
theorem rSectors_true (s n r : Int) (x : Nat) (w : World) (hM : Hid (∀ W, Calls Try.prog 27 #[.agg #[.int .i64 s, .int .i64 n, .float .f64 x, .int .i64 r]] W fun e w' => e = .returned (.bool true) ∧ Below W.heap.size W w')) (hok : okConf s n r) :
    Calls Try.prog 15 #[.agg #[.int .i64 s, .int .i64 n, .float .f64 x, .int .i64 r]] w fun e w' => e = .returned (.int .i64 (2 + s * (n + 1))) ∧ Below w.heap.size w w' := by
  have hn := heap_alloc_new w (.cells #[.int .i64 s, .int .i64 n, .float .f64 x, .int .i64 r] 24)
  have hb0 := (Below.refl w.heap.size w).alloc (Nat.le_refl _) (.cells #[.int .i64 s, .int .i64 n, .float .f64 x, .int .i64 r] 24)
  have HN := Lib.hid hn
  have HB0 := Lib.hid hb0
  clear hn hb0
  obtain ⟨⟨a1, a2⟩, ⟨a3, a4⟩, a5, a6⟩ := hok
  have q1 : wrap64 (n + 1) = n + 1 := IntWalk.wrap64_in _ (by omega)
  have hml : 0 ≤ s * (n + 1) := Int.mul_nonneg (by omega) (by omega)
  have hmh : s * (n + 1) ≤ 16 * 31 := Int.mul_le_mul (by omega) (by omega) (by omega) (by omega)
  have q2 : wrap64 (s * (n + 1)) = s * (n + 1) := IntWalk.wrap64_in _ (by omega)
  have q3 : wrap64 (2 + s * (n + 1)) = 2 + s * (n + 1) := IntWalk.wrap64_in _ (by omega)
  go_enter Try.func15, Try.ntmps15
  obtain ⟨c0, c1, c2, c3⟩ := cells4 HN.out
  go_wp2_with fail
  refine (hM.out _).mono ?_; rintro e w1 ⟨rfl, hb1⟩
  clear c0 c1 c2 c3
  obtain ⟨c0, c1, c2, c3⟩ := cells4 ((hb1.block _ (lt_of_row' HN.out)).trans HN.out)
  go_wp2_with fail
  go_ret
  exact ⟨rfl, below_step HB0.out hb1⟩
set_option maxRecDepth 100000 in
theorem rSectors_false (s n r : Int) (x : Nat) (w : World) (hM : Hid (∀ W, Calls Try.prog 27 #[.agg #[.int .i64 s, .int .i64 n, .float .f64 x, .int .i64 r]] W fun e w' => e = .returned (.bool false) ∧ Below W.heap.size W w'))  :
    Calls Try.prog 15 #[.agg #[.int .i64 s, .int .i64 n, .float .f64 x, .int .i64 r]] w fun e w' => e = .returned (.int .i64 (0)) ∧ Below w.heap.size w w' := by
  have hn := heap_alloc_new w (.cells #[.int .i64 s, .int .i64 n, .float .f64 x, .int .i64 r] 24)
  have hb0 := (Below.refl w.heap.size w).alloc (Nat.le_refl _) (.cells #[.int .i64 s, .int .i64 n, .float .f64 x, .int .i64 r] 24)
  have HN := Lib.hid hn
  have HB0 := Lib.hid hb0
  clear hn hb0
  go_enter Try.func15, Try.ntmps15
  obtain ⟨c0, c1, c2, c3⟩ := cells4 HN.out
  go_wp2_with fail
  refine (hM.out _).mono ?_; rintro e w1 ⟨rfl, hb1⟩
  clear c0 c1 c2 c3
  obtain ⟨c0, c1, c2, c3⟩ := cells4 ((hb1.block _ (lt_of_row' HN.out)).trans HN.out)
  go_wp2_with fail
  go_ret
  exact ⟨rfl, below_step HB0.out hb1⟩
theorem rSectors_v (s n r : Int) (x : Nat) (w : World) (hx : x < 18446744073709551616) : Calls Try.prog 15 #[.agg #[.int .i64 s, .int .i64 n, .float .f64 x, .int .i64 r]] w fun e w' => e = .returned (.int .i64 (secV s n r x)) ∧ Below w.heap.size w w' := by
  unfold secV
  by_cases h : may s n r x
  · rw [if_pos h]
    exact rSectors_true s n r x w (Lib.hid (fun W => by have := rMay_v s n r x W hx; rw [decide_eq_true h] at this; exact this)) h.1
  · rw [if_neg h]
    exact rSectors_false s n r x w (Lib.hid (fun W => by have := rMay_v s n r x W hx; rw [decide_eq_false h] at this; exact this))

set_option maxRecDepth 100000 in
theorem rBound_true (s n r : Int) (x : Nat) (w : World) (hM : Hid (∀ W, Calls Try.prog 27 #[.agg #[.int .i64 s, .int .i64 n, .float .f64 x, .int .i64 r]] W fun e w' => e = .returned (.bool true) ∧ Below W.heap.size W w')) (hok : okConf s n r) :
    Calls Try.prog 19 #[.agg #[.int .i64 s, .int .i64 n, .float .f64 x, .int .i64 r]] w fun e w' => e = .returned (.int .i64 (3 * (1 + (s - 1) * (n + 2)))) ∧ Below w.heap.size w w' := by
  have hn := heap_alloc_new w (.cells #[.int .i64 s, .int .i64 n, .float .f64 x, .int .i64 r] 24)
  have hb0 := (Below.refl w.heap.size w).alloc (Nat.le_refl _) (.cells #[.int .i64 s, .int .i64 n, .float .f64 x, .int .i64 r] 24)
  have HN := Lib.hid hn
  have HB0 := Lib.hid hb0
  clear hn hb0
  obtain ⟨⟨a1, a2⟩, ⟨a3, a4⟩, a5, a6⟩ := hok
  have q0 : wrap64 (s - 1) = s - 1 := IntWalk.wrap64_in _ (by omega)
  have q1 : wrap64 (n + 2) = n + 2 := IntWalk.wrap64_in _ (by omega)
  have hml : 0 ≤ (s - 1) * (n + 2) := Int.mul_nonneg (by omega) (by omega)
  have hmh : (s - 1) * (n + 2) ≤ 15 * 32 := Int.mul_le_mul (by omega) (by omega) (by omega) (by omega)
  have q2 : wrap64 ((s - 1) * (n + 2)) = (s - 1) * (n + 2) := IntWalk.wrap64_in _ (by omega)
  have q3 : wrap64 (1 + (s - 1) * (n + 2)) = 1 + (s - 1) * (n + 2) := IntWalk.wrap64_in _ (by omega)
  have q4 : wrap64 (3 * (1 + (s - 1) * (n + 2))) = 3 * (1 + (s - 1) * (n + 2)) := IntWalk.wrap64_in _ (by omega)
  go_enter Try.func19, Try.ntmps19
  obtain ⟨c0, c1, c2, c3⟩ := cells4 HN.out
  go_wp2_with fail
  refine (hM.out _).mono ?_; rintro e w1 ⟨rfl, hb1⟩
  clear c0 c1 c2 c3
  obtain ⟨c0, c1, c2, c3⟩ := cells4 ((hb1.block _ (lt_of_row' HN.out)).trans HN.out)
  go_wp2_with fail
  go_ret
  exact ⟨rfl, below_step HB0.out hb1⟩
set_option maxRecDepth 100000 in
theorem rBound_false (s n r : Int) (x : Nat) (w : World) (hM : Hid (∀ W, Calls Try.prog 27 #[.agg #[.int .i64 s, .int .i64 n, .float .f64 x, .int .i64 r]] W fun e w' => e = .returned (.bool false) ∧ Below W.heap.size W w'))  :
    Calls Try.prog 19 #[.agg #[.int .i64 s, .int .i64 n, .float .f64 x, .int .i64 r]] w fun e w' => e = .returned (.int .i64 (0)) ∧ Below w.heap.size w w' := by
  have hn := heap_alloc_new w (.cells #[.int .i64 s, .int .i64 n, .float .f64 x, .int .i64 r] 24)
  have hb0 := (Below.refl w.heap.size w).alloc (Nat.le_refl _) (.cells #[.int .i64 s, .int .i64 n, .float .f64 x, .int .i64 r] 24)
  have HN := Lib.hid hn
  have HB0 := Lib.hid hb0
  clear hn hb0
  go_enter Try.func19, Try.ntmps19
  obtain ⟨c0, c1, c2, c3⟩ := cells4 HN.out
  go_wp2_with fail
  refine (hM.out _).mono ?_; rintro e w1 ⟨rfl, hb1⟩
  clear c0 c1 c2 c3
  obtain ⟨c0, c1, c2, c3⟩ := cells4 ((hb1.block _ (lt_of_row' HN.out)).trans HN.out)
  go_wp2_with fail
  go_ret
  exact ⟨rfl, below_step HB0.out hb1⟩
theorem rBound_v (s n r : Int) (x : Nat) (w : World) (hx : x < 18446744073709551616) : Calls Try.prog 19 #[.agg #[.int .i64 s, .int .i64 n, .float .f64 x, .int .i64 r]] w fun e w' => e = .returned (.int .i64 (bouV s n r x)) ∧ Below w.heap.size w w' := by
  unfold bouV
  by_cases h : may s n r x
  · rw [if_pos h]
    exact rBound_true s n r x w (Lib.hid (fun W => by have := rMay_v s n r x W hx; rw [decide_eq_true h] at this; exact this)) h.1
  · rw [if_neg h]
    exact rBound_false s n r x w (Lib.hid (fun W => by have := rMay_v s n r x W hx; rw [decide_eq_false h] at this; exact this))

set_option maxRecDepth 100000 in
theorem rQuota_true (s n r : Int) (x : Nat) (w : World) (hM : Hid (∀ W, Calls Try.prog 27 #[.agg #[.int .i64 s, .int .i64 n, .float .f64 x, .int .i64 r]] W fun e w' => e = .returned (.bool true) ∧ Below W.heap.size W w')) (hok : okConf s n r) (k m : Int) (hm : Hid (m = (s - 2) * n)) (hQ : Hid (∀ W, Calls Try.prog 28 #[.float .f64 x, .int .i64 m] W fun e w' => e = .returned (.tuple #[.int .i64 k, .int .i64 0]) ∧ W = w')) :
    Calls Try.prog 17 #[.agg #[.int .i64 s, .int .i64 n, .float .f64 x, .int .i64 r]] w fun e w' => e = .returned (.int .i64 (k)) ∧ Below w.heap.size w w' := by
  have hn := heap_alloc_new w (.cells #[.int .i64 s, .int .i64 n, .float .f64 x, .int .i64 r] 24)
  have hb0 := (Below.refl w.heap.size w).alloc (Nat.le_refl _) (.cells #[.int .i64 s, .int .i64 n, .float .f64 x, .int .i64 r] 24)
  have HN := Lib.hid hn
  have HB0 := Lib.hid hb0
  clear hn hb0
  obtain ⟨⟨a1, a2⟩, ⟨a3, a4⟩, a5, a6⟩ := hok
  have q0 : wrap64 (s - 2) = s - 2 := IntWalk.wrap64_in _ (by omega)
  have hml : 0 ≤ (s - 2) * n := Int.mul_nonneg (by omega) (by omega)
  have hmh : (s - 2) * n ≤ 14 * 30 := Int.mul_le_mul (by omega) (by omega) (by omega) (by omega)
  have q1 : wrap64 ((s - 2) * n) = m := by rw [hm.out]; exact IntWalk.wrap64_in _ (by omega)
  go_enter Try.func17, Try.ntmps17
  obtain ⟨c0, c1, c2, c3⟩ := cells4 HN.out
  go_wp2_with fail
  refine (hM.out _).mono ?_; rintro e w1 ⟨rfl, hb1⟩
  clear c0 c1 c2 c3
  obtain ⟨c0, c1, c2, c3⟩ := cells4 ((hb1.block _ (lt_of_row' HN.out)).trans HN.out)
  go_wp2_with fail
  rw [← hm.out]
  refine (hQ.out _).mono ?_; rintro e w2 ⟨rfl, rfl⟩
  go_wp2_with fail
  go_ret
  exact ⟨rfl, below_step HB0.out hb1⟩
set_option maxRecDepth 100000 in
theorem rQuota_false (s n r : Int) (x : Nat) (w : World) (hM : Hid (∀ W, Calls Try.prog 27 #[.agg #[.int .i64 s, .int .i64 n, .float .f64 x, .int .i64 r]] W fun e w' => e = .returned (.bool false) ∧ Below W.heap.size W w'))  :
    Calls Try.prog 17 #[.agg #[.int .i64 s, .int .i64 n, .float .f64 x, .int .i64 r]] w fun e w' => e = .returned (.int .i64 (0)) ∧ Below w.heap.size w w' := by
  have hn := heap_alloc_new w (.cells #[.int .i64 s, .int .i64 n, .float .f64 x, .int .i64 r] 24)
  have hb0 := (Below.refl w.heap.size w).alloc (Nat.le_refl _) (.cells #[.int .i64 s, .int .i64 n, .float .f64 x, .int .i64 r] 24)
  have HN := Lib.hid hn
  have HB0 := Lib.hid hb0
  clear hn hb0
  go_enter Try.func17, Try.ntmps17
  obtain ⟨c0, c1, c2, c3⟩ := cells4 HN.out
  go_wp2_with fail
  refine (hM.out _).mono ?_; rintro e w1 ⟨rfl, hb1⟩
  clear c0 c1 c2 c3
  obtain ⟨c0, c1, c2, c3⟩ := cells4 ((hb1.block _ (lt_of_row' HN.out)).trans HN.out)
  go_wp2_with fail
  go_ret
  exact ⟨rfl, below_step HB0.out hb1⟩
theorem rQuota_v (s n r : Int) (x : Nat) (w : World) (hx : x < 18446744073709551616) : Calls Try.prog 17 #[.agg #[.int .i64 s, .int .i64 n, .float .f64 x, .int .i64 r]] w fun e w' => e = .returned (.int .i64 (quoV s n r x)) ∧ Below w.heap.size w w' := by
  unfold quoV
  by_cases h : may s n r x
  · rw [if_pos h]
    exact rQuota_true s n r x w (Lib.hid (fun W => by have := rMay_v s n r x W hx; rw [decide_eq_true h] at this; exact this)) h.1 _ ((s - 2) * n) (Lib.hid rfl) (Lib.hid (fun W => by
      have hm := mul_in s n h.1.1 h.1.2.1
      have := rShare_val x ((s - 2) * n) W hx (by omega)
      rw [shE_of x _ h.2 hm.1 (by omega)] at this
      exact this))
  · rw [if_neg h]
    exact rQuota_false s n r x w (Lib.hid (fun W => by have := rMay_v s n r x W hx; rw [decide_eq_false h] at this; exact this))

end Go.Proofs.Ytpnehpkecfbneaa.G
