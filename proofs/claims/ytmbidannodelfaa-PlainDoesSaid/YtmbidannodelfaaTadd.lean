/- A sum of two numbers of 64 bits, or the greatest one: word.Add. -/
import Derived.Test.YtmbidannodelfaaProg
import Derived.Test.YtmbidannodelfaaGWordm
import Derived.WalkKit
import Derived.KernelRfl
import Derived.Laws.Rows
import Derived.Laws.CopyRow
import Derived.Deep.WholeRow
import Derived.Deep.LoopGhost
import Derived.Lib.Hide
import Derived.Lib.Mul64
import Derived.Laws.Bits64b
import Derived.Laws.Externs
namespace Go.Proofs.Ytmbidannodelfaa.G
open Go.RowKit Go.Proofs.Ytmbidannodelfaa.WordPlain
set_option linter.unusedVariables false
set_option linter.unusedSimpArgs false

def addV (a b : Nat) : Nat := if 18446744073709551616 ≤ a + b then 18446744073709551615 else a + b
def addO (a b : Nat) : Bool := decide (18446744073709551616 ≤ a + b)

theorem run_Add64 (x y : Nat) (w : World) : (callFunc 58 #[.int .u64 x, .int .u64 y, .int .u64 0]).run Try.prog w =
    .ok (.value (.tuple #[.int .u64 (((x + y) % 18446744073709551616 : Nat) : Int), .int .u64 (((x + y) / 18446744073709551616 : Nat) : Int)])) w := by
  rw [run_callFunc_extern Try.func58 (by kernel_rfl) (by kernel_rfl) (by kernel_rfl) (e := add64Entry) (by kernel_rfl), run_add64 x y 0 (by omega) (by omega) (by omega) (by omega)]
  simp only [Result.andThen]
  congr 5 <;> omega

set_option maxRecDepth 100000 in
theorem Add_val (a b z : Nat) (o : Bool) (w : World) (ha : a < 18446744073709551616) (hb : b < 18446744073709551616) (hz : Hid (z = addV a b)) (ho : Hid (o = addO a b)) :
    Calls Try.prog 47 #[.int .u64 a, .int .u64 b] w fun e w' => e = .returned (.tuple #[.int .u64 z, .bool o]) ∧ w = w' := by
  by_cases h : 18446744073709551616 ≤ a + b
  · have h1 : ∀ w, (callFunc 58 #[.int .u64 a, .int .u64 b, .int .u64 0]).run Try.prog w = .ok (.value (.tuple #[.int .u64 (((a + b) % 18446744073709551616 : Nat) : Int), .int .u64 1])) w := by
      intro w
      rw [run_Add64, show (a + b) / 18446744073709551616 = 1 by omega]; rfl
    obtain ⟨m, hm⟩ : ∃ m, m = (a + b) % 18446744073709551616 := ⟨_, rfl⟩
    rw [← hm] at h1
    have e1 : z = 18446744073709551615 := by rw [hz.out]; unfold addV; rw [if_pos h]
    have e2 : o = true := by rw [ho.out]; unfold addO; exact decide_eq_true h
    subst e2
    have E1 := Lib.hid e1
    clear h hm e1
    go_enter Try.func47, Try.ntmps47
    go_wp2_with fail
    go_ret2
    exact ⟨by rw [E1.out]; rfl, rfl⟩
  · have h1 : ∀ w, (callFunc 58 #[.int .u64 a, .int .u64 b, .int .u64 0]).run Try.prog w = .ok (.value (.tuple #[.int .u64 z, .int .u64 0])) w := by
      intro w
      have e : (a + b) % 18446744073709551616 = z := by rw [hz.out]; unfold addV; rw [if_neg h]; omega
      rw [run_Add64, show (a + b) / 18446744073709551616 = 0 by omega, e]; rfl
    have e2 : o = false := by rw [ho.out]; unfold addO; exact decide_eq_false h
    subst e2
    clear h
    go_enter Try.func47, Try.ntmps47
    go_wp2_with fail
    go_ret2
    exact ⟨rfl, rfl⟩

end Go.Proofs.Ytmbidannodelfaa.G
