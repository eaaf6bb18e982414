/- An act, in plain Lean; a list of truths in memory. -/
import Derived.Test.YtjkiofgllmjkcaaGWordm
import Derived.Test.YtjkiofgllmjkcaaGMisc
import Derived.Test.YtjkiofgllmjkcaaGWord2
namespace Go.Proofs.Ytjkiofgllmjkcaa.G
open Go.RowKit Go.Proofs.Ytjkiofgllmjkcaa.WordPlain
set_option linter.unusedVariables false

/-- a list of truths in memory -/
def Sb (w : World) (v : Value) (l : List Bool) : Prop :=
  (l = [] ∧ ∃ oa cap, v = .slice oa 0 cap ∧ (oa = none → cap = 0)) ∨
  (l ≠ [] ∧ ∃ b off cap, v = .slice (some ⟨b, off, none⟩) l.length cap ∧ l.length ≤ cap ∧ ∀ i (h : i < l.length), w.cell? ⟨b, off + i, none⟩ = some (.bool l[i]))
theorem Sb.below {B : Nat} {w w' : World} {v : Value} {l : List Bool} (h : Sb w v l) (hb : Below B w w') (hB : w.heap.size ≤ B) : Sb w' v l := by
  rcases h with h | ⟨h0, b, off, cap, hv, hc, hx⟩
  · exact Or.inl h
  · refine Or.inr ⟨h0, b, off, cap, hv, hc, fun i hi => ?_⟩
    have := hx i hi
    have hlt := block_lt_of_cell this
    rw [hb.cell (p := ⟨b, off + i, none⟩) (Nat.lt_of_lt_of_le hlt hB)]
    exact this
theorem Sb.form {w : World} {v : Value} {l : List Bool} (h : Sb w v l) : ∃ oa cap, v = .slice oa l.length cap := by
  rcases h with ⟨rfl, oa, cap, rfl, _⟩ | ⟨_, b, off, cap, rfl, _⟩
  · exact ⟨oa, cap, rfl⟩
  · exact ⟨_, cap, rfl⟩
theorem Sb.nil (w : World) : Sb w (.slice none 0 0) [] := Or.inl ⟨rfl, none, 0, rfl, fun _ => rfl⟩

/-- what is done -/
structure Ac where
  kind : Int
  rk : Int
  id : ByteArray
  va : ByteArray
  ttl : Nat
  pick : Int
  n : Nat
  keep : List Bool
  torn : Int
  pl : Int
  deriving DecidableEq

structure Ac.Kind (a : Ac) : Prop where
  kind : -9223372036854775808 ≤ a.kind ∧ a.kind < 9223372036854775808
  rk : -9223372036854775808 ≤ a.rk ∧ a.rk < 9223372036854775808
  id : a.id.size ≤ 140737488351232
  va : a.va.size ≤ 140737488351232
  ttl : a.ttl < 18446744073709551616
  pick : -9223372036854775808 ≤ a.pick ∧ a.pick < 9223372036854775808
  n : a.n < 18446744073709551616
  keep : a.keep.length ≤ 140737488351232
  torn : -9223372036854775808 ≤ a.torn ∧ a.torn < 9223372036854775808
  pl : -9223372036854775808 ≤ a.pl ∧ a.pl < 9223372036854775808

/-- the struct's cells -/
def Ac.row (a : Ac) (vk : Value) : Array Value := #[.int .i64 a.kind, .int .i64 a.rk, .string a.id, .string a.va, .float .f64 a.ttl, .int .i64 a.pick, .int .u64 a.n, vk, .int .i64 a.torn, .int .i64 a.pl]
def Ac.zero : Ac := ⟨0, 0, ByteArray.empty, ByteArray.empty, 0, 0, 0, [], 0, 0⟩
/-- an act with just what its kind names -/
def Ac.only (a : Ac) : Ac :=
  if a.kind = 0 then { Ac.zero with rk := a.rk, id := a.id, va := a.va, ttl := a.ttl, pick := a.pick }
  else if a.kind = 1 ∨ a.kind = 2 ∨ a.kind = 4 then { Ac.zero with kind := a.kind, n := a.n }
  else if a.kind = 5 then { Ac.zero with kind := 5, n := a.n, keep := a.keep, torn := a.torn, pl := a.pl }
  else { Ac.zero with kind := a.kind }
/-- the numbers that an act of its kind may have -/
def Ac.fits (a : Ac) : Prop :=
  if a.kind = 0 then (0 ≤ a.rk ∧ a.rk ≤ 255) ∧ a.id.size ≤ 255 ∧ a.va.size ≤ 255 ∧ (0 ≤ a.pick ∧ a.pick ≤ 255)
  else if a.kind = 2 then a.n ≤ 255
  else if a.kind = 4 then a.n ≤ 65535
  else if a.kind = 5 then a.keep.length ≤ 255 ∧ (0 ≤ a.torn ∧ a.torn ≤ 65535) ∧ (0 ≤ a.pl ∧ a.pl ≤ 128)
  else a.kind = 1 ∨ a.kind = 3
instance (a : Ac) : Decidable a.fits := by unfold Ac.fits; infer_instance
def Ac.Right (a : Ac) : Prop := a = a.only ∧ a.fits
instance (a : Ac) : Decidable a.Right := by unfold Ac.Right; infer_instance
end Go.Proofs.Ytjkiofgllmjkcaa.G
