/- The reference's form of a checkpoint; lists cut; a sector of zeros. -/
import Derived.Test.YtieijelbflkpeaaGCkS
namespace Go.Proofs.Ytieijelbflkpeaa.G
open Go.RowKit
set_option linter.unusedVariables false
set_option linter.unusedSimpArgs false

set_option maxRecDepth 100000 in
theorem Ref_form (g ep l v m n cap cap' : Nat) (oa oa' : Option Addr) (w : World) :
    Calls Try.prog 12 #[.agg #[.int .u64 g, .int .u32 ep, .int .u64 l, .int .u64 v, .slice oa m cap, .slice oa' n cap']] w fun e w' => e = .returned (.agg #[.int .u64 g, .int .u32 ep, .int .u64 l, .int .u64 v, .slice oa m cap, .slice oa' n cap']) ∧ Below w.heap.size w w' := by
  go_enter Try.func12, Try.ntmps12
  go_wp2_with fail
  have h := heap_alloc_new (w.alloc (.cells #[.int .u64 g, .int .u32 ep, .int .u64 l, .int .u64 v, .slice oa m cap, .slice oa' n cap'] 26)) (.cells #[.int .u64 g, .int .u32 ep, .int .u64 l, .int .u64 v, .slice oa m cap, .slice oa' n cap'] 32)
  have hs : (w.alloc (.cells #[.int .u64 g, .int .u32 ep, .int .u64 l, .int .u64 v, .slice oa m cap, .slice oa' n cap'] 26)).heap.size = w.heap.size + 1 := by show (w.heap.push _).size = _; rw [Array.size_push]
  rw [hs] at h
  refine bodyPost_ret (v := .agg #[.int .u64 g, .int .u32 ep, .int .u64 l, .int .u64 v, .slice oa m cap, .slice oa' n cap']) ?_ rfl ⟨rfl, ?_⟩
  · exact results_cell_row (p := 2) (ty := 32) rfl _ _ (w.heap.size + 1) 32 _ (0, 0) _ rfl h Try.underlying32 rfl (by kernel_rfl)
  · exact ((Below.refl _ _).alloc (Nat.le_refl _) _).alloc (by rw [hs]; omega) _
theorem Ref_val (c : Ck) (vo vl : Value) (w : World) (ho : Sl w vo c.order) (hl : Sl w vl c.lens) :
    Calls Try.prog 12 #[c.val vo vl] w fun e w' => e = .returned (c.val vo vl) ∧ Below w.heap.size w w' := by
  obtain ⟨oa, cap, rfl⟩ := ho.form
  obtain ⟨oa', cap', rfl⟩ := hl.form
  exact Ref_form c.gen c.ep c.lsn c.ver c.order.length c.lens.length cap cap' oa oa' w

theorem slice_cut {P : Program} (W : World) (t : TypeId) (e : TypeId) (oa : Option Addr) (len cap k : Nat) (ht : P.underlying t = some (.slice e)) (hs : ((P.info? e).map (·.size)).isSome = true) (hk : k ≤ cap) :
    (Instr.sliceAt t (.slice oa len cap) none (some (.int .i64 (k : Int))) none).run P W = .ok (.slice oa k cap) W := by
  have he : P.elem t = e := by simp [Program.elem, ht]
  have ht' : P.underlying t = some (.slice (P.elem t)) := by rw [he]; exact ht
  rw [run_sliceAt_slice _ _ _ _ _ _ ht', run_slice_h (P := P) W t oa len cap ht' .i64 (k : Int) (by omega) (by omega), he]
  cases hq : P.info? e with
  | none => rw [hq] at hs; simp at hs
  | some i =>
    simp only [sizeOf, typeInfo]
    cases oa with
    | none => simp [hq, sliced]
    | some a => simp [hq, sliced, Addr.add]

theorem Sl.cut {w : World} {l : List Int} {oa : Option Addr} {m cap : Nat} (h : Sl w (.slice oa m cap) l) (k : Nat) (hk : k = min l.length 20) : Sl w (.slice oa k cap) (l.take 20) ∧ m = l.length ∧ k ≤ cap := by
  rcases h with ⟨h0, oa', cap', hv, hc⟩ | ⟨h0, b, off, cap', hv, hc, hx⟩
  · injection hv with e1 e2 e3
    subst e1 e2 e3 h0
    have : k = 0 := by simpa using hk
    subst this
    exact ⟨Or.inl ⟨rfl, oa, cap, rfl, hc⟩, rfl, by omega⟩
  · injection hv with e1 e2 e3
    subst e1 e2 e3
    refine ⟨Or.inr ⟨?_, b, off, cap, ?_, ?_, ?_⟩, rfl, by omega⟩
    · intro h
      have h3 : (l.take 20).length = 0 := by rw [h]; rfl
      rw [List.length_take] at h3
      have h2 : 0 < l.length := List.length_pos_iff.2 h0
      omega
    · rw [List.length_take, hk, Nat.min_comm]
    · rw [List.length_take]; omega
    · intro i hi
      rw [List.length_take] at hi
      rw [hx i (by omega), List.getElem_take]

/-- with lists of at most 20 numbers -/
def Ck.cut (c : Ck) : Ck := { c with order := c.order.take 20, lens := c.lens.take 20 }

set_option maxRecDepth 100000 in
theorem Cut_form (g ep l v m n cap cap' k k' : Nat) (oa oa' : Option Addr) (w : World) (hk : k = min m 20) (hk' : k' = min n 20) (hc : k ≤ cap) (hc' : k' ≤ cap') :
    Calls Try.prog 9 #[.agg #[.int .u64 g, .int .u32 ep, .int .u64 l, .int .u64 v, .slice oa m cap, .slice oa' n cap']] w fun e w' => e = .returned (.agg #[.int .u64 g, .int .u32 ep, .int .u64 l, .int .u64 v, .slice oa k cap, .slice oa' k' cap']) ∧ Below w.heap.size w w' := by
  have s1 := fun W => slice_cut (P := Try.prog) W 24 3 oa m cap k Try.underlying24 (by kernel_rfl) hc
  have s2 := fun W => slice_cut (P := Try.prog) W 24 3 oa' n cap' k' Try.underlying24 (by kernel_rfl) hc'
  have m1 : ∀ W, (Builtin.min_ #[3, 3] 3 #[.int .i64 (m : Int), .int .i64 20]).run Try.prog W = .ok (.int .i64 (k : Int)) W := by
    intro W
    rw [run_min2, show min (m : Int) 20 = (k : Int) from by omega]
  have m2 : ∀ W, (Builtin.min_ #[3, 3] 3 #[.int .i64 (n : Int), .int .i64 20]).run Try.prog W = .ok (.int .i64 (k' : Int)) W := by
    intro W
    rw [run_min2, show min (n : Int) 20 = (k' : Int) from by omega]
  clear hk hk' hc hc'
  go_enter Try.func9, Try.ntmps9
  go_wp2_with fail
  have h := heap_alloc_new (w.alloc (.cells #[.int .u64 g, .int .u32 ep, .int .u64 l, .int .u64 v, .slice oa k cap, .slice oa' k' cap'] 26)) (.cells #[.int .u64 g, .int .u32 ep, .int .u64 l, .int .u64 v, .slice oa k cap, .slice oa' k' cap'] 26)
  have hs : (w.alloc (.cells #[.int .u64 g, .int .u32 ep, .int .u64 l, .int .u64 v, .slice oa k cap, .slice oa' k' cap'] 26)).heap.size = w.heap.size + 1 := by show (w.heap.push _).size = _; rw [Array.size_push]
  rw [hs] at h
  refine bodyPost_ret (v := .agg #[.int .u64 g, .int .u32 ep, .int .u64 l, .int .u64 v, .slice oa k cap, .slice oa' k' cap']) ?_ rfl ⟨rfl, ?_⟩
  · exact results_cell_row (p := 2) (ty := 26) rfl _ _ (w.heap.size + 1) 26 _ (0, 0) _ rfl h Try.underlying26 rfl (by kernel_rfl)
  · exact ((Below.refl _ _).alloc (Nat.le_refl _) _).alloc (by rw [hs]; omega) _

theorem Cut_val (c : Ck) (vo vl : Value) (w : World) (ho : Sl w vo c.order) (hl : Sl w vl c.lens) :
    ∃ uo ul, Sl w uo c.cut.order ∧ Sl w ul c.cut.lens ∧ ∀ W, Calls Try.prog 9 #[c.val vo vl] W fun e w' => e = .returned (c.cut.val uo ul) ∧ Below W.heap.size W w' := by
  obtain ⟨oa, cap, rfl⟩ := ho.form
  obtain ⟨oa', cap', rfl⟩ := hl.form
  obtain ⟨a1, _, a3⟩ := ho.cut _ rfl
  obtain ⟨b1, _, b3⟩ := hl.cut _ rfl
  exact ⟨_, _, a1, b1, fun W => Cut_form c.gen c.ep c.lsn c.ver c.order.length c.lens.length cap cap' _ _ oa oa' W rfl rfl a3 b3⟩
theorem Ck.Kind.cut {c : Ck} (h : c.Kind) : c.cut.Kind :=
  ⟨h.gen, h.ep, h.lsn, h.ver, fun x hx => h.order x (List.mem_of_mem_take hx), fun x hx => h.lens x (List.mem_of_mem_take hx), by show (c.order.take 20).length ≤ _; rw [List.length_take]; omega, by show (c.lens.take 20).length ≤ _; rw [List.length_take]; omega⟩

/-! a sector of zeros -/
set_option maxRecDepth 100000 in
theorem Zero_val (w : World) (z : ByteArray) (hz : Hid (z = ⟨(List.replicate 128 0).toArray⟩)) :
    Calls Try.prog 21 #[] w fun e w' => e = .returned (.string z) ∧ w = w' := by
  go_enter Try.func21, Try.ntmps21
  go_wp2_with fail
  go_loop [1, 2] (fun sv i => ∃ (k : Nat) (y : ByteArray), k ≤ 128 ∧ i = .int .i64 k ∧ sv = .string y ∧ y.data.toList = List.replicate k 0) (fun _ i => 128 - (intOf i).toNat)
  case atStart => exact ⟨0, _, by omega, rfl, rfl, rfl⟩
  case round =>
    obtain ⟨k, y, hk, rfl, rfl, hy⟩ := hrel
    have hys : y.size = k := by
      have h1 : y.size = y.data.toList.length := rfl
      rw [h1, hy, List.length_replicate]
    have HY := Lib.hid hy
    clear hy
    by_cases hlt : k < 128
    · have hcc : (9223372036854775807 < k + 1) = False := eq_false (by omega)
      go_wp2_with fail
      go_round
      case rel => exact ⟨k + 1, _, by omega, by go_num, rfl, by rw [ByteArray.data_append, Array.toList_append, HY.out, List.replicate_succ']⟩
      case measure => simp [intOf]; omega
    · obtain rfl : k = 128 := by omega
      have e : y = z := by
        rw [hz.out]
        apply ByteArray.ext
        apply Array.ext'
        exact HY.out
      subst e
      go_wp2_with fail
      go_ret
      exact ⟨rfl, rfl⟩
end Go.Proofs.Ytieijelbflkpeaa.G
