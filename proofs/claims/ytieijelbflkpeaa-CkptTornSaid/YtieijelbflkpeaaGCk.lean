/- Contracts of package ckpt. -/
import Derived.Test.YtieijelbflkpeaaGCkm
import Derived.Test.YtieijelbflkpeaaGBytes
import Derived.Test.YtieijelbflkpeaaGWord2
import Derived.WalkKit
import Derived.Laws.Rows
import Derived.Deep.LoopGhost
namespace Go.Proofs.Ytieijelbflkpeaa.G
open Go.RowKit Go.Proofs.Ytieijelbflkpeaa.CrcPlain Go.Proofs.Ytieijelbflkpeaa.WordPlain
set_option linter.unusedVariables false
set_option linter.unusedSimpArgs false

theorem Sl.form {w : World} {v : Value} {l : List Int} (h : Sl w v l) : ∃ oa cap, v = .slice oa l.length cap := by
  rcases h with ⟨rfl, oa, cap, rfl, _⟩ | ⟨_, b, off, cap, rfl, _⟩
  · exact ⟨oa, cap, rfl⟩
  · exact ⟨_, cap, rfl⟩

/-- what the guard at the head asks -/
def early (g l : Nat) (m n : Nat) : Prop := g = 0 ∨ l = 0 ∨ m = 0 ∨ 16 < m ∨ n ≠ m

set_option maxRecDepth 100000 in
theorem Right_early (g ep l v m n : Nat) (oa oa' : Option Addr) (cap cap' : Nat) (w : World) (hm : m ≤ 140737488351232) (hn : n ≤ 140737488351232) (h : early g l m n) :
    Calls Try.prog 17 #[.agg #[.int .u64 g, .int .u32 ep, .int .u64 l, .int .u64 v, .slice oa m cap, .slice oa' n cap']] w fun e w' => e = .returned (.bool false) ∧ Below w.heap.size w w' := by
  have split : ((g : Int) == 0) = true ∨ (((g : Int) == 0) = false ∧ ((l : Int) == 0) = true) ∨ (((g : Int) == 0) = false ∧ ((l : Int) == 0) = false ∧ ((m : Int) == 0) = true) ∨
      (((g : Int) == 0) = false ∧ ((l : Int) == 0) = false ∧ ((m : Int) == 0) = false ∧ (16 : Int) < m) ∨
      (((g : Int) == 0) = false ∧ ((l : Int) == 0) = false ∧ ((m : Int) == 0) = false ∧ ¬ (16 : Int) < m ∧ ((n : Int) == (m : Int)) = false) := by
    simp only [beq_iff_eq, beq_eq_false_iff_ne]
    unfold early at h
    omega
  clear h
  rcases split with q | ⟨q, q2⟩ | ⟨q, q2, q3⟩ | ⟨q, q2, q3, q4⟩ | ⟨q, q2, q3, q4, q5⟩
  all_goals
    go_enter Try.func17, Try.ntmps17
    go_wp2_with fail
    go_ret
    exact ⟨rfl, (Below.refl _ _).alloc (Nat.le_refl _) _⟩

/-- which of 16 were seen -/
def seenA (l : List Int) : Array Value := ((List.range 16).map fun (j : Nat) => Value.bool (decide ((j : Int) ∈ l))).toArray
theorem seenA_at (l : List Int) (j : Nat) (hj : j < 16) : (seenA l)[j]? = some (.bool (decide ((j : Int) ∈ l))) := by
  unfold seenA
  rw [List.getElem?_toArray, List.getElem?_map, List.getElem?_range hj]; rfl
theorem seenA_next (l : List Int) (x : Nat) (hx : x < 16) : (seenA l).setIfInBounds x (.bool true) = seenA (l ++ [(x : Int)]) := by
  apply Array.ext
  · simp [seenA]
  · intro i h1 h2
    rw [Array.size_setIfInBounds] at h1
    have h16 : i < 16 := by simpa [seenA] using h1
    rw [Array.getElem_setIfInBounds h1]
    by_cases e : x = i
    · subst e
      simp [seenA]
    · rw [if_neg e]
      simp only [seenA, List.getElem_toArray, List.getElem_map, List.getElem_range, List.mem_append, List.mem_singleton]
      congr 1
      apply decide_eq_decide.2
      constructor
      · exact Or.inl
      · rintro (h | h)
        · exact h
        · omega

/-- the list is right up to k -/
def okTo (od ln : List Int) (k : Nat) : Prop := (∀ x ∈ od.take k, 0 ≤ x ∧ x < 16) ∧ (∀ x ∈ ln.take k, 0 ≤ x ∧ x ≤ 30) ∧ (od.take k).Nodup
instance (od ln : List Int) (k : Nat) : Decidable (okTo od ln k) := by unfold okTo; infer_instance
theorem okTo_zero (od ln : List Int) : okTo od ln 0 := by unfold okTo; simp
theorem okTo_next (od ln : List Int) (k : Nat) (h1 : k < od.length) (h2 : k < ln.length) : okTo od ln (k + 1) ↔ okTo od ln k ∧ (0 ≤ od[k] ∧ od[k] < 16) ∧ (0 ≤ ln[k] ∧ ln[k] ≤ 30) ∧ od[k] ∉ od.take k := by
  unfold okTo
  rw [List.take_succ_eq_append_getElem h1, List.take_succ_eq_append_getElem h2]
  constructor
  · rintro ⟨h1, h2, h3⟩
    refine ⟨⟨fun x hx => h1 x (List.mem_append_left _ hx), fun x hx => h2 x (List.mem_append_left _ hx), (List.nodup_append.1 h3).1⟩, h1 _ (List.mem_append_right _ (List.mem_singleton.2 rfl)), h2 _ (List.mem_append_right _ (List.mem_singleton.2 rfl)), fun hm => (List.nodup_append.1 h3).2.2 _ hm _ (List.mem_singleton.2 rfl) rfl⟩
  · rintro ⟨⟨a, b, c⟩, d, e, f⟩
    refine ⟨fun x hx => ?_, fun x hx => ?_, List.nodup_append.2 ⟨c, by simp, ?_⟩⟩
    · rcases List.mem_append.1 hx with h | h
      · exact a x h
      · rw [List.mem_singleton.1 h]; exact d
    · rcases List.mem_append.1 hx with h | h
      · exact b x h
      · rw [List.mem_singleton.1 h]; exact e
    · intro x hx y hy hxy
      rw [List.mem_singleton.1 hy] at hxy
      subst hxy
      exact f hx
theorem okTo_le (od ln : List Int) (k n : Nat) (h : okTo od ln n) (hk : k ≤ n) : okTo od ln k := by
  have e1 : od.take k = (od.take n).take k := by rw [List.take_take, Nat.min_eq_left hk]
  have e2 : ln.take k = (ln.take n).take k := by rw [List.take_take, Nat.min_eq_left hk]
  refine ⟨fun x hx => h.1 x ?_, fun x hx => h.2.1 x ?_, ?_⟩
  · rw [e1] at hx; exact List.mem_of_mem_take hx
  · rw [e2] at hx; exact List.mem_of_mem_take hx
  · rw [e1]; exact h.2.2.sublist (List.take_sublist _ _)
theorem right_okTo (c : Ck) : c.Right ↔ ¬ early c.gen c.lsn c.order.length c.lens.length ∧ okTo c.order c.lens c.order.length := by
  unfold Ck.Right early okTo
  constructor
  · rintro ⟨h1, h2, h3, h4, h5, h6, h7, h8⟩
    have : 0 < c.order.length := List.length_pos_iff.2 h3
    refine ⟨by omega, ?_, ?_, ?_⟩
    · rw [List.take_length]; exact h6
    · rw [← h5, List.take_length]; exact h7
    · rw [List.take_length]; exact h8
  · rintro ⟨h1, h6, h7, h8⟩
    have h5 : c.lens.length = c.order.length := by omega
    rw [List.take_length] at h6 h8
    rw [← h5, List.take_length] at h7
    refine ⟨by omega, by omega, ?_, by omega, h5, h6, h7, h8⟩
    intro h
    rw [h] at h1
    simp at h1

theorem seen_zero (W : World) : (zeroValue 64).run Try.prog W = .ok (.agg (seenA [])) W := by kernel_rfl

set_option maxRecDepth 100000 in
set_option maxHeartbeats 4000000 in
theorem Right_late (g ep l v : Nat) (od ln : List Int) (b off cap b' off' cap' : Nat) (w : World) (hnot : ¬ early g l od.length ln.length)
    (hc1 : ∀ i (h : i < od.length), w.cell? ⟨b, off + i, none⟩ = some (.int .i64 od[i])) (hc2 : ∀ i (h : i < ln.length), w.cell? ⟨b', off' + i, none⟩ = some (.int .i64 ln[i])) (z : Bool) (hz : Hid (z = decide (okTo od ln od.length))) :
    Calls Try.prog 17 #[.agg #[.int .u64 g, .int .u32 ep, .int .u64 l, .int .u64 v, .slice (some ⟨b, off, none⟩) od.length cap, .slice (some ⟨b', off', none⟩) ln.length cap']] w fun e w' => e = .returned (.bool z) ∧ Below w.heap.size w w' := by
  obtain ⟨m, hm⟩ : ∃ m, m = od.length := ⟨_, rfl⟩
  obtain ⟨n, hn⟩ : ∃ n, n = ln.length := ⟨_, rfl⟩
  rw [← hm, ← hn] at hnot
  have q : ((g : Int) == 0) = false ∧ ((l : Int) == 0) = false ∧ ((m : Int) == 0) = false ∧ ¬ (16 : Int) < m ∧ n = m := by
    simp only [beq_eq_false_iff_ne]
    unfold early at hnot
    omega
  obtain ⟨q1, q2, q3, q4, rfl⟩ := q
  have hm16 : n ≤ 16 := by omega
  rw [← hm, ← hn]
  clear hnot
  have C1 := Lib.hid hc1
  have C2 := Lib.hid hc2
  have HM := Lib.hid hm
  have HN := Lib.hid hn
  have hzv := seen_zero
  clear hc1 hc2 hm hn
  go_enter Try.func17, Try.ntmps17
  go_wp2_with fail
  clear hzv
  go_loopw [38] (fun i wr => ∃ k : Nat, k ≤ n ∧ i = .int .i64 k ∧ okTo od ln k ∧ Below w.heap.size w wr ∧
    wr.heap[w.heap.size]? = some (.cells #[.int .u64 g, .int .u32 ep, .int .u64 l, .int .u64 v, .slice (some ⟨b, off, none⟩) n cap, .slice (some ⟨b', off', none⟩) n cap'] 26 (0, 0)) ∧
    wr.heap[w.heap.size + 1]? = some (.cells (seenA (od.take k)) 64 (0, 0))) (fun i _ => n - (intOf i).toNat)
  case atStart =>
    obtain ⟨O, hO⟩ : ∃ O, O = Obj.cells #[.int .u64 g, .int .u32 ep, .int .u64 l, .int .u64 v, .slice (some ⟨b, off, none⟩) n cap, .slice (some ⟨b', off', none⟩) n cap'] 26 := ⟨_, rfl⟩
    rw [← hO]
    have hn1 := heap_alloc_new w O
    have hs1 : (w.alloc O).heap.size = w.heap.size + 1 := by show (w.heap.push O).size = _; rw [Array.size_push]
    have hn2 := heap_alloc_new (w.alloc O) (.cells (seenA []) 64)
    rw [hs1] at hn2
    refine ⟨0, by omega, rfl, okTo_zero _ _, ((Below.refl _ _).alloc (Nat.le_refl _) _).alloc (by rw [hs1]; omega) _, ?_, hn2⟩
    rw [heap_alloc_old _ _ (by rw [hs1]; omega), hn1, hO]
  case round =>
    obtain ⟨k, hk, rfl, hok, hbel, hb0, hb1⟩ := hrel
    by_cases hlt : k < n
    · have hlo : k < od.length := by have := HM.out; omega
      have hll : k < ln.length := by have := HN.out; omega
      obtain ⟨x, hx⟩ : ∃ x, x = od[k] := ⟨_, rfl⟩
      obtain ⟨y, hy⟩ : ∃ y, y = ln[k] := ⟨_, rfl⟩
      have c4 := cell_of_row wr w.heap.size 4 _ _ _ hb0
      have c5 := cell_of_row wr w.heap.size 5 _ _ _ hb0
      have r1 : wr.cell? ⟨b, off + k, none⟩ = some (.int .i64 x) := by
        have := C1.out k hlo
        rw [hbel.cell (p := ⟨b, off + k, none⟩) (block_lt_of_cell this), this, hx]
      have r2 : wr.cell? ⟨b', off' + k, none⟩ = some (.int .i64 y) := by
        have := C2.out k hll
        rw [hbel.cell (p := ⟨b', off' + k, none⟩) (block_lt_of_cell this), this, hy]
      have hnext := okTo_next od ln k hlo hll
      rw [← hx, ← hy] at hnext
      have HNX := Lib.hid hnext
      have HOK := Lib.hid hok
      have HB1 := Lib.hid hb1
      have HX := Lib.hid hx
      have HY := Lib.hid hy
      have hfalse : ¬ ((0 ≤ x ∧ x < 16) ∧ (0 ≤ y ∧ y ≤ 30) ∧ x ∉ od.take k) → z = false := by
        intro h
        rw [hz.out]
        apply decide_eq_false
        intro h2
        exact h (hnext.1 (okTo_le od ln (k + 1) od.length h2 hlo)).2
      have HF := Lib.hid hfalse
      clear hnext hok hb1 hx hy hfalse
      by_cases p1 : x < 0
      · have e := HF.out (by omega)
        subst e
        go_wp2_with fail
        go_ret
        exact ⟨rfl, hbel⟩
      · obtain ⟨xn, rfl⟩ := Int.eq_ofNat_of_zero_le (show 0 ≤ x by omega)
        by_cases p2 : (xn : Int) < 16
        · have p3 : xn < 16 := by omega
          have cs := cell_of_row wr (w.heap.size + 1) xn _ _ _ HB1.out
          rw [seenA_at _ xn p3] at cs
          by_cases p4 : (xn : Int) ∈ od.take k
          · have e := HF.out (fun h => h.2.2 p4)
            subst e
            rw [decide_eq_true p4] at cs
            clear p4
            go_wp2_with fail
            go_ret
            exact ⟨rfl, hbel⟩
          · rw [decide_eq_false p4] at cs
            have P4 := Lib.hid p4
            clear p4
            by_cases p5 : y < 0
            · have e := HF.out (by omega)
              subst e
              go_wp2_with fail
              go_ret
              exact ⟨rfl, hbel⟩
            · by_cases p6 : 30 < y
              · have e := HF.out (by omega)
                subst e
                go_wp2_with fail
                go_ret
                exact ⟨rfl, hbel⟩
              · have fr : wr.frozen? ⟨w.heap.size + 1, xn, none⟩ = false := frozen_of_row wr _ xn _ _ HB1.out
                go_wp2_with fail
                go_roundw
                case rel =>
                  refine ⟨k + 1, by omega, by go_num, HNX.out.2 ⟨HOK.out, ⟨by omega, p2⟩, ⟨by omega, by omega⟩, P4.out⟩, hbel.setCell (Nat.le_succ _) _, ?_, ?_⟩
                  · rw [heap_setCell_other _ _ _ _ (by show w.heap.size ≠ w.heap.size + 1; omega)]; exact hb0
                  · rw [heap_setCell_same _ _ _ _ _ _ HB1.out, seenA_next _ xn p3, List.take_succ_eq_append_getElem hlo, ← HX.out]
                case measure => simp [intOf]; omega
        · have e := HF.out (by omega)
          subst e
          go_wp2_with fail
          go_ret
          exact ⟨rfl, hbel⟩
    · obtain rfl : k = n := by omega
      have e : z = true := by
        rw [hz.out, ← HM.out]
        exact decide_eq_true hok
      subst e
      clear hok
      go_wp2_with fail
      go_ret
      exact ⟨rfl, hbel⟩

theorem Right_val (c : Ck) (vo vl : Value) (w : World) (hk : c.Kind) (ho : Sl w vo c.order) (hl : Sl w vl c.lens) (z : Bool) (hz : Hid (z = decide c.Right)) :
    Calls Try.prog 17 #[c.val vo vl] w fun e w' => e = .returned (.bool z) ∧ Below w.heap.size w w' := by
  by_cases h : early c.gen c.lsn c.order.length c.lens.length
  · obtain ⟨oa, cap, rfl⟩ := ho.form
    obtain ⟨oa', cap', rfl⟩ := hl.form
    have e : z = false := by
      rw [hz.out]
      exact decide_eq_false (fun h2 => ((right_okTo c).1 h2).1 h)
    subst e
    exact Right_early c.gen c.ep c.lsn c.ver c.order.length c.lens.length oa oa' cap cap' w hk.olen hk.llen h
  · have h' := h
    unfold early at h'
    rcases ho with ⟨h0, _⟩ | ⟨_, b, off, cap, rfl, _, hc1⟩
    · rw [h0] at h'; simp at h'
    · rcases hl with ⟨h0, _⟩ | ⟨_, b', off', cap', rfl, _, hc2⟩
      · have : c.lens.length = 0 := by rw [h0]; rfl
        omega
      · refine Right_late c.gen c.ep c.lsn c.ver c.order c.lens b off cap b' off' cap' w h hc1 hc2 z ?_
        show z = _
        rw [hz.out]
        apply decide_eq_decide.2
        rw [right_okTo]
        exact ⟨fun h2 => h2.2, fun h2 => ⟨h, h2⟩⟩
end Go.Proofs.Ytieijelbflkpeaa.G
