/- The same checkpoint; the reference's form; lists cut. -/
import Derived.Test.YtieijelbflkpeaaGCkI
import Derived.Test.YtieijelbflkpeaaGLoose
namespace Go.Proofs.Ytieijelbflkpeaa.G
open Go.RowKit
set_option linter.unusedVariables false
set_option linter.unusedSimpArgs false

theorem beq_or (a b : Nat) : (((a : Int) == (b : Int)) = true ∧ a = b) ∨ (((a : Int) == (b : Int)) = false ∧ a ≠ b) := by
  by_cases h : a = b
  · exact Or.inl ⟨beq_iff_eq.2 (by omega), h⟩
  · exact Or.inr ⟨beq_eq_false_iff_ne.2 (by omega), h⟩

set_option maxRecDepth 100000 in
set_option maxHeartbeats 4000000 in
theorem Same_val (c d : Ck) (vo vl uo ul : Value) (w : World) (hk : c.Kind) (ho : Sl w vo c.order) (hl : Sl w vl c.lens) (go : Sl w uo d.order) (gl : Sl w ul d.lens) (z : Bool) (hz : Hid (z = decide (c.gen = d.gen ∧ c.ep = d.ep ∧ c.lsn = d.lsn ∧ c.ver = d.ver ∧ c.order = d.order ∧ c.lens = d.lens))) :
    Calls Try.prog 19 #[c.val vo vl, d.val uo ul] w fun e w' => e = .returned (.bool z) ∧ Below w.heap.size w w' := by
  have hi1 := fun (W : World) (a : Sl W vo c.order) (b : Sl W uo d.order) => Ints_val c.order d.order vo uo W hk.olen a b (decide (c.order = d.order)) rfl
  have hi2 := fun (W : World) (a : Sl W vl c.lens) (b : Sl W ul d.lens) => Ints_val c.lens d.lens vl ul W hk.llen a b (decide (c.lens = d.lens)) rfl
  obtain ⟨g, ep, l, v, od, ln⟩ := c
  obtain ⟨g', ep', l', v', od', ln'⟩ := d
  simp only [] at ho hl go gl hz hi1 hi2
  have I1 := Lib.hid hi1
  have I2 := Lib.hid hi2
  have A1 := Lib.hid ho
  have A2 := Lib.hid hl
  have B1 := Lib.hid go
  have B2 := Lib.hid gl
  clear hi1 hi2 ho hl go gl
  show Calls Try.prog 19 #[.agg #[.int .u64 g, .int .u32 ep, .int .u64 l, .int .u64 v, vo, vl], .agg #[.int .u64 g', .int .u32 ep', .int .u64 l', .int .u64 v', uo, ul]] w _
  obtain ⟨W2, hW2⟩ : ∃ W2, W2 = (w.alloc (.cells #[.int .u64 g, .int .u32 ep, .int .u64 l, .int .u64 v, vo, vl] 32)).alloc (.cells #[.int .u64 g', .int .u32 ep', .int .u64 l', .int .u64 v', uo, ul] 32) := ⟨_, rfl⟩
  have hb2 : Below w.heap.size w W2 := by rw [hW2]; exact ((Below.refl _ _).alloc (Nat.le_refl _) _).alloc (by show w.heap.size ≤ (w.heap.push _).size; simp) _
  have HB2 := Lib.hid hb2
  have HW2 := Lib.hid hW2
  clear hW2 hb2
  have early : ∀ (P : Prop), P → P := fun _ h => h
  clear early
  rcases beq_or g g' with ⟨q1, e1⟩ | ⟨q1, e1⟩
  · rcases beq_or ep ep' with ⟨q2, e2⟩ | ⟨q2, e2⟩
    · rcases beq_or l l' with ⟨q3, e3⟩ | ⟨q3, e3⟩
      · rcases beq_or v v' with ⟨q4, e4⟩ | ⟨q4, e4⟩
        · have ez : z = (decide (od = od') && decide (ln = ln')) := by
            rw [hz.out]
            simp [e1, e2, e3, e4]
          have E1 := Lib.hid e1
          clear e1 e2 e3 e4
          have EZ := Lib.hid ez
          clear ez
          by_cases k1 : od = od'
          · have d1 : decide (od = od') = true := decide_eq_true k1
            have i1 := I1.out
            rw [d1] at i1
            have J1 := Lib.hid i1
            have D1 := Lib.hid d1
            clear i1 d1 k1
            go_enter Try.func19, Try.ntmps19
            go_wp2_with fail
            refine (J1.out _ ?_ ?_).mono ?_
            · rw [← HW2.out]; exact A1.out.below HB2.out (Nat.le_refl _)
            · rw [← HW2.out]; exact B1.out.below HB2.out (Nat.le_refl _)
            rintro e w1 ⟨rfl, hb1⟩
            rw [← HW2.out] at hb1
            have hbb := below_step HB2.out hb1
            have s0 : w.heap.size < W2.heap.size ∧ w.heap.size + 1 < W2.heap.size := by
              rw [HW2.out]
              show w.heap.size < ((w.heap.push _).push _).size ∧ w.heap.size + 1 < ((w.heap.push _).push _).size
              rw [Array.size_push, Array.size_push]; omega
            have c5 : w1.cell? ⟨w.heap.size, 5, none⟩ = some vl := by
              rw [hb1.cell (p := ⟨w.heap.size, 5, none⟩) s0.1, HW2.out, cell_of_row _ _ 5 _ _ _ ((heap_alloc_old _ _ (by show w.heap.size < (w.heap.push _).size; rw [Array.size_push]; omega)).trans (heap_alloc_new _ _))]
              rfl
            have c5' : w1.cell? ⟨w.heap.size + 1, 5, none⟩ = some ul := by
              have h := heap_alloc_new (w.alloc (.cells #[.int .u64 g, .int .u32 ep, .int .u64 l, .int .u64 v, vo, vl] 32)) (.cells #[.int .u64 g', .int .u32 ep', .int .u64 l', .int .u64 v', uo, ul] 32)
              rw [show (w.alloc (.cells #[.int .u64 g, .int .u32 ep, .int .u64 l, .int .u64 v, vo, vl] 32)).heap.size = w.heap.size + 1 from by show (w.heap.push _).size = _; simp, ← HW2.out] at h
              rw [hb1.cell (p := ⟨w.heap.size + 1, 5, none⟩) s0.2, cell_of_row _ _ 5 _ _ _ h]
              rfl
            go_wp2_with fail
            refine (I2.out _ ?_ ?_).mono ?_
            · exact A2.out.below hbb (Nat.le_refl _)
            · exact B2.out.below hbb (Nat.le_refl _)
            rintro e w2 ⟨rfl, hb3⟩
            go_wp2_with fail
            go_ret
            exact ⟨by rw [EZ.out, D1.out]; rfl, below_step hbb hb3⟩
          · have d1 : decide (od = od') = false := decide_eq_false k1
            have i1 := I1.out
            rw [d1] at i1
            have J1 := Lib.hid i1
            have D1 := Lib.hid d1
            clear i1 d1 k1
            go_enter Try.func19, Try.ntmps19
            go_wp2_with fail
            refine (J1.out _ ?_ ?_).mono ?_
            · rw [← HW2.out]; exact A1.out.below HB2.out (Nat.le_refl _)
            · rw [← HW2.out]; exact B1.out.below HB2.out (Nat.le_refl _)
            rintro e w1 ⟨rfl, hb1⟩
            rw [← HW2.out] at hb1
            have hbb := below_step HB2.out hb1
            go_wp2_with fail
            go_ret
            exact ⟨by rw [EZ.out, D1.out]; rfl, hbb⟩
        · have ez : z = false := by rw [hz.out]; exact decide_eq_false (fun h => e4 h.2.2.2.1)
          subst ez
          clear e1 e2 e3 e4
          go_enter Try.func19, Try.ntmps19
          go_wp2_with fail
          go_ret
          exact ⟨rfl, by rw [← HW2.out]; exact HB2.out⟩
      · have ez : z = false := by rw [hz.out]; exact decide_eq_false (fun h => e3 h.2.2.1)
        subst ez
        clear e1 e2 e3
        go_enter Try.func19, Try.ntmps19
        go_wp2_with fail
        go_ret
        exact ⟨rfl, by rw [← HW2.out]; exact HB2.out⟩
    · have ez : z = false := by rw [hz.out]; exact decide_eq_false (fun h => e2 h.2.1)
      subst ez
      clear e1 e2
      go_enter Try.func19, Try.ntmps19
      go_wp2_with fail
      go_ret
      exact ⟨rfl, by rw [← HW2.out]; exact HB2.out⟩
  · have ez : z = false := by rw [hz.out]; exact decide_eq_false (fun h => e1 h.1)
    subst ez
    clear e1
    go_enter Try.func19, Try.ntmps19
    go_wp2_with fail
    go_ret
    exact ⟨rfl, by rw [← HW2.out]; exact HB2.out⟩
end Go.Proofs.Ytieijelbflkpeaa.G
