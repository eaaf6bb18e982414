/- What the laws of package ckpt want beside. -/
import Derived.Test.YtieijelbflkpeaaGCkX
import Derived.Test.YtieijelbflkpeaaGCkO
import Derived.Test.YtieijelbflkpeaaGFast
import Derived.BigQuiet
namespace Go.Proofs.Ytieijelbflkpeaa.G
open Go.RowKit Go.Proofs.Ytieijelbflkpeaa.CrcPlain Go.Proofs.Ytieijelbflkpeaa.WordPlain
set_option linter.unusedVariables false

def sameB (c d : Ck) : Bool := decide (c.gen = d.gen ∧ c.ep = d.ep ∧ c.lsn = d.lsn ∧ c.ver = d.ver ∧ c.order = d.order ∧ c.lens = d.lens)
theorem sameB_iff (c d : Ck) : sameB c d = true ↔ c = d := by
  unfold sameB
  rw [decide_eq_true_eq]
  constructor
  · rintro ⟨a, b, e, f, g, h⟩
    cases c; cases d
    simp only at a b e f g h
    subst a b e f g h
    rfl
  · rintro rfl; exact ⟨rfl, rfl, rfl, rfl, rfl, rfl⟩
theorem sameB_refl (c : Ck) : sameB c c = true := (sameB_iff c c).2 rfl
theorem same_out (c d : Ck) (hk : c.Kind) (hd : d.Kind) (h : c.Right) (h2 : d.Right) (z1 z2 : ByteArray) (e1 : z1 = c.out) (e2 : z2 = d.out) (Z : Bool) (hZ : Z = sameB c d) : ((z1.toList == z2.toList) == Z) = true := by
  have e : (z1.toList == z2.toList) = Z := by
    rw [Bool.eq_iff_iff, beq_iff_eq, hZ, sameB_iff, ← out_inj c d hk hd h h2, ← e1, ← e2]
    exact ⟨toList_inj, fun h => by rw [h]⟩
  rw [e]; simp
theorem Same_any (c d : Ck) (vo vl uo ul : Value) (w : World) (hk : c.Kind) (ho : Sl w vo c.order) (hl : Sl w vl c.lens) (go : Sl w uo d.order) (gl : Sl w ul d.lens) (z : Bool) (hz : Hid (z = sameB c d)) :
    Calls Try.prog 19 #[c.val vo vl, d.val uo ul] w fun e w' => e = .returned (.bool z) ∧ Below w.heap.size w w' := Same_val c d vo vl uo ul w hk ho hl go gl z hz
end Go.Proofs.Ytieijelbflkpeaa.G
