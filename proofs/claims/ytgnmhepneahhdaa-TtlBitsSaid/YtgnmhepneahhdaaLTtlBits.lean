/- TtlBits: whatever the bits, the law answers true. No condition. -/
import Derived.Test.YtgnmhepneahhdaaTk
import Derived.Test.YtgnmhepneahhdaaFu
namespace Go.Proofs.Ytgnmhepneahhdaa.L
open Go.RowKit Go.Proofs.Ytgnmhepneahhdaa.G
set_option linter.unusedVariables false
set_option linter.unusedSimpArgs false

theorem frombits (x : Nat) (hx : x < 18446744073709551616) (W : World) : (callFunc 22 #[.int .u64 (x : Int)]).run Try.prog W = .ok (.value (.float .f64 x)) W := by kernel_rfl
set_option maxRecDepth 100000 in
theorem bits_main (x : Nat) (w : World) (hx : x < 18446744073709551616) :
    Calls Try.prog 4 #[.int .u64 (x : Int)] w fun e w' => e = .returned (.bool true) ∧ Below w.heap.size w w' := by
  have fb := frombits x hx
  have T1 := Lib.hid (fun W => Ticks_val x W hx)
  have T2 := Lib.hid (fun W => rTicks_val x W hx)
  have K1 := Lib.hid (fun W => Kind_val x W hx)
  have K2 := Lib.hid (fun W => rKind_val x W hx)
  obtain ⟨a, ha⟩ : ∃ a, a = F.tickV x := ⟨_, rfl⟩
  obtain ⟨b, hb⟩ : ∃ a, a = F.tickE x := ⟨_, rfl⟩
  obtain ⟨k, hk⟩ : ∃ a, a = F.kindB x := ⟨_, rfl⟩
  rw [← ha, ← hb] at T1 T2
  rw [← hk] at K1 K2
  clear ha hb hk hx
  go_enter Try.func4, Try.ntmps4
  go_wp2_with fail
  refine (T1.out _).mono ?_; rintro e w1 ⟨rfl, rfl⟩
  go_wp2_with fail
  refine (T2.out _).mono ?_; rintro e w1 ⟨rfl, rfl⟩
  go_wp2_with fail
  refine (K1.out _).mono ?_; rintro e w1 ⟨rfl, rfl⟩
  go_wp2_with fail
  refine (K2.out _).mono ?_; rintro e w1 ⟨rfl, rfl⟩
  go_wp2_with fail
  refine (fixed_val _).mono ?_; rintro e w1 ⟨rfl, rfl⟩
  go_wp2_with fail
  go_ret
  exact ⟨rfl, Below.refl _ _⟩

theorem TtlBits_walk (a0 : Int) (w : World) (w0 : (Lit.int .u64 a0).wf = true) :
    Calls Try.prog 4 #[.int .u64 a0] w fun e w' => e = .returned (.bool true) ∧ Below w.heap.size w w' := by
  obtain ⟨n, rfl, hn⟩ := u64_wf _ w0
  exact bits_main n w hn
end Go.Proofs.Ytgnmhepneahhdaa.L
