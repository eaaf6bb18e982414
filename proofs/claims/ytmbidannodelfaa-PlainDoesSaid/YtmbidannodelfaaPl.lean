/- ttl.Later. -/
import Derived.Test.YtmbidannodelfaaGMisc
import Derived.Test.YtmbidannodelfaaTadd
import Derived.WalkKit
import Derived.Laws.Rows
namespace Go.Proofs.Ytmbidannodelfaa.G
open Go.RowKit Go.Proofs.Ytmbidannodelfaa.WordPlain
set_option linter.unusedVariables false
set_option linter.unusedSimpArgs false

set_option maxRecDepth 100000 in
theorem Later_val (a b c : Nat) (w : World) (ha : a < 18446744073709551616) (hb : b < 18446744073709551616) (hc : Hid (c = addV a b)) :
    Calls Try.prog 26 #[.int .u64 a, .int .u64 b] w fun e w' => e = .returned (.int .u64 c) ∧ w = w' := by
  have h := fun W => Add_val a b c (addO a b) W ha hb hc (Lib.hid rfl)
  have H := Lib.hid h
  clear h
  go_enter Try.func26, Try.ntmps26
  go_wp2_with fail
  refine (H.out _).mono ?_; rintro e w1 ⟨rfl, rfl⟩
  go_wp2_with fail
  go_ret
  exact ⟨rfl, rfl⟩
end Go.Proofs.Ytmbidannodelfaa.G
