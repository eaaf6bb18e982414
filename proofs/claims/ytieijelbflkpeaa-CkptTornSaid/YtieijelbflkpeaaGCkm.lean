/- A checkpoint, in plain Lean: whether it may be, its bytes; and a list of numbers in memory. -/
import Derived.Test.YtieijelbflkpeaaGWordm
import Derived.Test.YtieijelbflkpeaaGCrc3
import Derived.Test.YtieijelbflkpeaaGMisc
namespace Go.Proofs.Ytieijelbflkpeaa.G
open Go.RowKit Go.Proofs.Ytieijelbflkpeaa.CrcPlain Go.Proofs.Ytieijelbflkpeaa.WordPlain
set_option linter.unusedVariables false

/-- a list of numbers in memory -/
def Sl (w : World) (v : Value) (l : List Int) : Prop :=
  (l = [] ∧ ∃ oa cap, v = .slice oa 0 cap ∧ (oa = none → cap = 0)) ∨
  (l ≠ [] ∧ ∃ b off cap, v = .slice (some ⟨b, off, none⟩) l.length cap ∧ l.length ≤ cap ∧ ∀ i (h : i < l.length), w.cell? ⟨b, off + i, none⟩ = some (.int .i64 l[i]))

theorem Sl.below {B : Nat} {w w' : World} {v : Value} {l : List Int} (h : Sl w v l) (hb : Below B w w') (hB : w.heap.size ≤ B) : Sl w' v l := by
  rcases h with h | ⟨h0, b, off, cap, hv, hc, hx⟩
  · exact Or.inl h
  · refine Or.inr ⟨h0, b, off, cap, hv, hc, fun i hi => ?_⟩
    have := hx i hi
    have hlt := block_lt_of_cell this
    rw [hb.cell (p := ⟨b, off + i, none⟩) (Nat.lt_of_lt_of_le hlt hB)]
    exact this

structure Ck where
  gen : Nat
  ep : Nat
  lsn : Nat
  ver : Nat
  order : List Int
  lens : List Int

structure Ck.Kind (c : Ck) : Prop where
  gen : c.gen < 18446744073709551616
  ep : c.ep < 4294967296
  lsn : c.lsn < 18446744073709551616
  ver : c.ver < 18446744073709551616
  order : ∀ x ∈ c.order, -9223372036854775808 ≤ x ∧ x < 9223372036854775808
  lens : ∀ x ∈ c.lens, -9223372036854775808 ≤ x ∧ x < 9223372036854775808
  olen : c.order.length ≤ 140737488351232
  llen : c.lens.length ≤ 140737488351232

/-- may it be? -/
def Ck.Right (c : Ck) : Prop := c.gen ≠ 0 ∧ c.lsn ≠ 0 ∧ c.order ≠ [] ∧ c.order.length ≤ 16 ∧ c.lens.length = c.order.length ∧
  (∀ x ∈ c.order, 0 ≤ x ∧ x < 16) ∧ (∀ x ∈ c.lens, 0 ≤ x ∧ x ≤ 30) ∧ c.order.Nodup
instance (c : Ck) : Decidable c.Right := by unfold Ck.Right; infer_instance

/-- the struct's value -/
def Ck.val (c : Ck) (vo vl : Value) : Value := .agg #[.int .u64 c.gen, .int .u32 c.ep, .int .u64 c.lsn, .int .u64 c.ver, vo, vl]
end Go.Proofs.Ytieijelbflkpeaa.G
