/- TtlWhole: whatever the number and its fraction, the law answers true. No condition. -/
import Derived.Test.YtgnmhepneahhdaaTk
import Derived.Test.YtgnmhepneahhdaaFu
import Derived.Test.YtgnmhepneahhdaaFw
namespace Go.Proofs.Ytgnmhepneahhdaa.L
open Go.RowKit Go.Proofs.Ytgnmhepneahhdaa.G
set_option linter.unusedVariables false
set_option linter.unusedSimpArgs false

abbrev TickC (x : Nat) (a : Int) (e : Int) : Prop := Hid (∀ w, Calls Try.prog 10 #[.float .f64 x] w fun r w' => r = .returned (.tuple #[.int .u64 a, .int .i64 e]) ∧ w = w')

set_option maxRecDepth 100000 in
theorem whole_a (n m p N P Q x : Nat) (a e : Int) (w : World) (em : (n : Int).tmod 4503599627370496 = (m : Int)) (c1 : floatOfInt .f64 (m : Int) = N) (c2 : floatOfInt .f64 (p : Int) = P) (dv : ∀ W : World, (binOp .quo 22 (.float .f64 P) (.float .f64 4643211215818981376)).run Try.prog W = .ok (.float .f64 Q) W) (ad : ∀ W : World, (binOp .add 22 (.float .f64 N) (.float .f64 Q)).run Try.prog W = .ok (.float .f64 x) W) (m0 : ((m : Int) == 0) = true) (T : TickC x 0 1) :
    Calls Try.prog 6 #[.int .u64 (n : Nat), .int .u8 (p : Nat)] w fun e w' => e = .returned (.bool true) ∧ Below w.heap.size w w' := by
  go_enter Try.func6, Try.ntmps6
  go_wp2_with fail
  refine (T.out _).mono ?_; rintro e w1 ⟨rfl, rfl⟩
  go_wp2_with fail
  refine (fixed_val _).mono ?_; rintro e w1 ⟨rfl, rfl⟩
  go_wp2_with fail
  go_ret
  exact ⟨rfl, Below.refl _ _⟩

set_option maxRecDepth 100000 in
theorem whole_b (n m p N P Q x : Nat) (a e : Int) (w : World) (em : (n : Int).tmod 4503599627370496 = (m : Int)) (c1 : floatOfInt .f64 (m : Int) = N) (c2 : floatOfInt .f64 (p : Int) = P) (dv : ∀ W : World, (binOp .quo 22 (.float .f64 P) (.float .f64 4643211215818981376)).run Try.prog W = .ok (.float .f64 Q) W) (ad : ∀ W : World, (binOp .add 22 (.float .f64 N) (.float .f64 Q)).run Try.prog W = .ok (.float .f64 x) W) (m0 : ((m : Int) == 0) = false) (mb : decide ((m : Int) > 17592186044416) = false) (T : TickC x m 0) :
    Calls Try.prog 6 #[.int .u64 (n : Nat), .int .u8 (p : Nat)] w fun e w' => e = .returned (.bool true) ∧ Below w.heap.size w w' := by
  go_enter Try.func6, Try.ntmps6
  go_wp2_with fail
  refine (T.out _).mono ?_; rintro e w1 ⟨rfl, rfl⟩
  go_wp2_with fail
  refine (fixed_val _).mono ?_; rintro e w1 ⟨rfl, rfl⟩
  go_wp2_with fail
  go_ret
  exact ⟨rfl, Below.refl _ _⟩

set_option maxRecDepth 100000 in
theorem whole_c (n m p N P Q x : Nat) (a e : Int) (w : World) (em : (n : Int).tmod 4503599627370496 = (m : Int)) (c1 : floatOfInt .f64 (m : Int) = N) (c2 : floatOfInt .f64 (p : Int) = P) (dv : ∀ W : World, (binOp .quo 22 (.float .f64 P) (.float .f64 4643211215818981376)).run Try.prog W = .ok (.float .f64 Q) W) (ad : ∀ W : World, (binOp .add 22 (.float .f64 N) (.float .f64 Q)).run Try.prog W = .ok (.float .f64 x) W) (m0 : ((m : Int) == 0) = false) (mb : decide ((m : Int) > 17592186044416) = true) (T : TickC x a e) (T2 : TickC N m 0) :
    Calls Try.prog 6 #[.int .u64 (n : Nat), .int .u8 (p : Nat)] w fun e w' => e = .returned (.bool true) ∧ Below w.heap.size w w' := by
  go_enter Try.func6, Try.ntmps6
  go_wp2_with fail
  refine (T.out _).mono ?_; rintro e w1 ⟨rfl, rfl⟩
  go_wp2_with fail
  refine (T2.out _).mono ?_; rintro e w1 ⟨rfl, rfl⟩
  go_wp2_with fail
  refine (fixed_val _).mono ?_; rintro e w1 ⟨rfl, rfl⟩
  go_wp2_with fail
  go_ret
  exact ⟨rfl, Below.refl _ _⟩

theorem whole_main (n p : Nat) (w : World) (hn : n < 18446744073709551616) (hp : p < 256) :
    Calls Try.prog 6 #[.int .u64 (n : Nat), .int .u8 (p : Nat)] w fun e w' => e = .returned (.bool true) ∧ Below w.heap.size w w' := by
  obtain ⟨m, hm⟩ : ∃ m, m = n % 4503599627370496 := ⟨_, rfl⟩
  have hml : m < 4503599627370496 := by omega
  have em : (n : Int).tmod 4503599627370496 = (m : Int) := by rw [hm]; exact (Int.ofNat_tmod n 4503599627370496).symm
  have dv : ∀ W : World, (binOp .quo 22 (.float .f64 (F.nb p)) (.float .f64 4643211215818981376)).run Try.prog W = .ok (.float .f64 (Ieee.double.nearest false p (-8))) W := fun W =>
    run_float_arith W .quo _ .f64 _ _ _ (F.part_div ⟨p, hp⟩)
  have ad : ∀ W : World, (binOp .add 22 (.float .f64 (F.nb m)) (.float .f64 (Ieee.double.nearest false p (-8)))).run Try.prog W = .ok (.float .f64 (F.whx m p)) W := fun W =>
    run_float_arith W .add _ .f64 _ _ _ (F.whx_sum m p hml hp)
  have T : TickC (F.whx m p) (F.tickV (F.whx m p) : Nat) (F.tickE (F.whx m p) : Nat) := Lib.hid (fun W => Ticks_val _ W (F.whx_lt m p))
  have c1 := F.nb_int m
  have c2 := F.nb_int p
  by_cases hb : m ≤ 17592186044416
  · have hf := F.whx_fl m p hb hp
    have ht := F.tick_fl (F.whx m p) hf.1 (by rw [hf.2]; omega)
    rw [ht.1, ht.2, hf.2] at T
    by_cases h0 : m = 0
    · rw [if_pos h0] at T
      have T' : TickC (F.whx m p) 0 1 := by rw [h0] at T ⊢; exact T
      exact whole_a n m p _ _ _ _ 0 0 w em c1 c2 dv ad (by rw [h0]; rfl) T'
    · rw [if_neg h0] at T
      exact whole_b n m p _ _ _ _ 0 0 w em c1 c2 dv ad (by rw [beq_eq_false_iff_ne]; omega) (decide_eq_false (by omega)) T
  · have hN := F.nb_num m (by omega)
    have T2 : TickC (F.nb m) (F.tickV (F.nb m) : Nat) (F.tickE (F.nb m) : Nat) := Lib.hid (fun W => Ticks_val _ W (by omega))
    have ht := F.tick_fl (F.nb m) hN.1 (by rw [hN.2.2]; omega)
    rw [ht.1, ht.2, hN.2.2, if_neg (by omega)] at T2
    exact whole_c n m p _ _ _ _ _ _ w em c1 c2 dv ad (by rw [beq_eq_false_iff_ne]; omega) (decide_eq_true (by omega)) T T2

theorem TtlWhole_walk (a0 a1 : Int) (w : World) (w0 : (Lit.int .u64 a0).wf = true) (w1 : (Lit.int .u8 a1).wf = true) :
    Calls Try.prog 6 #[.int .u64 a0, .int .u8 a1] w fun e w' => e = .returned (.bool true) ∧ Below w.heap.size w w' := by
  obtain ⟨n, rfl, hn⟩ := u64_wf _ w0
  have h : IntKind.u8.min ≤ a1 ∧ a1 ≤ IntKind.u8.max := by simpa only [Lit.wf, Bool.and_eq_true, decide_eq_true_eq] using w1
  have e1 : IntKind.u8.min = 0 := by decide
  have e2 : IntKind.u8.max = 255 := by decide
  rw [e1, e2] at h
  obtain ⟨p, rfl⟩ : ∃ p : Nat, a1 = (p : Int) := ⟨a1.toNat, by omega⟩
  exact whole_main n p w hn (by omega)
end Go.Proofs.Ytgnmhepneahhdaa.L
