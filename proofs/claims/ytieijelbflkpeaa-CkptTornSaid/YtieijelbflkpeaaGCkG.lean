/- The reference's Encode, for every checkpoint. -/
import Derived.Test.YtieijelbflkpeaaGCkF
namespace Go.Proofs.Ytieijelbflkpeaa.G
open Go.RowKit Go.Proofs.Ytieijelbflkpeaa.CrcPlain Go.Proofs.Ytieijelbflkpeaa.WordPlain Go.Proofs.Ytieijelbflkpeaa.Loose
set_option linter.unusedVariables false
set_option linter.unusedSimpArgs false

set_option maxRecDepth 100000 in
theorem rEncode_not (c : Ck) (vo vl : Value) (w : World) (hk : c.Kind) (ho : Sl w vo c.order) (hl : Sl w vl c.lens) (h : ¬ c.Right) :
    Calls Try.prog 11 #[c.val vo vl] w fun e w' => e = .returned (.tuple #[.string ⟨#[]⟩, .int .i64 5]) ∧ Below w.heap.size w w' := by
  have hr := fun (W : World) (a : Sl W vo c.order) (b : Sl W vl c.lens) => rRight_val c vo vl W hk a b false (Lib.hid (decide_eq_false h).symm)
  have HR := Lib.hid hr
  have HO := Lib.hid ho
  have HL := Lib.hid hl
  clear hr h ho hl
  obtain ⟨g, ep, l, v, od, ln⟩ := c
  show Calls Try.prog 11 #[.agg #[.int .u64 g, .int .u32 ep, .int .u64 l, .int .u64 v, vo, vl]] w _
  go_enter Try.func11, Try.ntmps11
  go_wp2_with fail
  have hb0 := (Below.refl w.heap.size w).alloc (Nat.le_refl _) (.cells #[.int .u64 g, .int .u32 ep, .int .u64 l, .int .u64 v, vo, vl] 32)
  refine (HR.out _ (HO.out.below hb0 (Nat.le_refl _)) (HL.out.below hb0 (Nat.le_refl _))).mono ?_; rintro e w1 ⟨rfl, hb1⟩
  go_wp2_with fail
  go_ret2
  exact ⟨rfl, below_step hb0 hb1⟩

theorem rEncode_val (c : Ck) (vo vl : Value) (w : World) (hk : c.Kind) (ho : Sl w vo c.order) (hl : Sl w vl c.lens) (z : ByteArray) (x : Int) (hz : Hid (z = c.out)) (hx : Hid (x = c.err)) :
    Calls Try.prog 11 #[c.val vo vl] w fun e w' => e = .returned (.tuple #[.string z, .int .i64 x]) ∧ Below w.heap.size w w' := by
  by_cases h : c.Right
  · have e1 : x = 0 := by rw [hx.out]; exact if_pos h
    have e2 : z.data.toList = c.enc := by rw [hz.out]; unfold Ck.out; rw [if_pos h]
    subst e1
    have h' := h
    obtain ⟨_, _, hne, _, hlen, _⟩ := h'
    have ho' := ho
    have hl' := hl
    rcases ho with ⟨h0, _⟩ | ⟨_, b, off, cap, rfl, _, hc1⟩
    · exact absurd h0 hne
    · rcases hl with ⟨h0, _⟩ | ⟨_, b', off', cap', rfl, _, hc2⟩
      · exfalso
        rw [h0] at hlen
        exact hne (List.length_eq_zero_iff.1 hlen.symm)
      · exact rEncode_right c.gen c.ep c.lsn c.ver c.order c.lens b off cap b' off' cap' w hk h hc1 hc2 ho' hl' z e2
  · have e1 : x = 5 := by rw [hx.out]; exact if_neg h
    have e2 : z = ⟨#[]⟩ := by rw [hz.out]; unfold Ck.out; rw [if_neg h]
    subst e1 e2
    exact rEncode_not c vo vl w hk ho hl h
end Go.Proofs.Ytieijelbflkpeaa.G
