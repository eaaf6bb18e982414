/- Contracts of the reference of ckpt: Right. -/
import Derived.Test.YtieijelbflkpeaaGCk
namespace Go.Proofs.Ytieijelbflkpeaa.G
open Go.RowKit Go.Proofs.Ytieijelbflkpeaa.CrcPlain Go.Proofs.Ytieijelbflkpeaa.WordPlain
set_option linter.unusedVariables false
set_option linter.unusedSimpArgs false

theorem below_drewN (w : World) (n : Nat) : Below w.heap.size w (w.drewN n) := ⟨rfl, rfl, rfl, Nat.le_refl _, fun _ _ => rfl⟩

set_option maxRecDepth 100000 in
theorem rRight_early (g ep l v m n : Nat) (oa oa' : Option Addr) (cap cap' : Nat) (w : World) (hm : m ≤ 140737488351232) (hn : n ≤ 140737488351232) (h : early g l m n) :
    Calls Try.prog 18 #[.agg #[.int .u64 g, .int .u32 ep, .int .u64 l, .int .u64 v, .slice oa m cap, .slice oa' n cap']] w fun e w' => e = .returned (.bool false) ∧ Below w.heap.size w w' := by
  have split : ((g : Int) == 0) = true ∨ (((g : Int) == 0) = false ∧ ((l : Int) == 0) = true) ∨ (((g : Int) == 0) = false ∧ ((l : Int) == 0) = false ∧ (m : Int) < 1) ∨
      (((g : Int) == 0) = false ∧ ((l : Int) == 0) = false ∧ ¬ (m : Int) < 1 ∧ (16 : Int) < m) ∨
      (((g : Int) == 0) = false ∧ ((l : Int) == 0) = false ∧ ¬ (m : Int) < 1 ∧ ¬ (16 : Int) < m ∧ ((n : Int) == (m : Int)) = false) := by
    simp only [beq_iff_eq, beq_eq_false_iff_ne]
    unfold early at h
    omega
  clear h
  rcases split with q | ⟨q, q2⟩ | ⟨q, q2, q3⟩ | ⟨q, q2, q3, q4⟩ | ⟨q, q2, q3, q4, q5⟩
  all_goals
    go_enter Try.func18, Try.ntmps18
    go_wp2_with fail
    go_ret
    exact ⟨rfl, (Below.refl _ _).alloc (Nat.le_refl _) _⟩

set_option maxRecDepth 100000 in
set_option maxHeartbeats 4000000 in
theorem rRight_late (g ep l v : Nat) (od ln : List Int) (b off cap b' off' cap' : Nat) (w : World) (hnot : ¬ early g l od.length ln.length)
    (hc1 : ∀ i (h : i < od.length), w.cell? ⟨b, off + i, none⟩ = some (.int .i64 od[i])) (hc2 : ∀ i (h : i < ln.length), w.cell? ⟨b', off' + i, none⟩ = some (.int .i64 ln[i])) (z : Bool) (hz : Hid (z = decide (okTo od ln od.length))) :
    Calls Try.prog 18 #[.agg #[.int .u64 g, .int .u32 ep, .int .u64 l, .int .u64 v, .slice (some ⟨b, off, none⟩) od.length cap, .slice (some ⟨b', off', none⟩) ln.length cap']] w fun e w' => e = .returned (.bool z) ∧ Below w.heap.size w w' := by
  obtain ⟨m, hm⟩ : ∃ m, m = od.length := ⟨_, rfl⟩
  obtain ⟨n, hn⟩ : ∃ n, n = ln.length := ⟨_, rfl⟩
  rw [← hm, ← hn] at hnot
  have q : ((g : Int) == 0) = false ∧ ((l : Int) == 0) = false ∧ ¬ (m : Int) < 1 ∧ ¬ (16 : Int) < m ∧ n = m := by
    simp only [beq_eq_false_iff_ne]
    unfold early at hnot
    omega
  obtain ⟨q1, q2, q3, q4, rfl⟩ := q
  have hm16 : n ≤ 16 := by omega
  rw [← hm, ← hn]
  clear hnot
  have C1 := Lib.hid hc1
  have C2 := Lib.hid hc2
  have HM := Lib.hid hm
  have HN := Lib.hid hn
  clear hc1 hc2 hm hn
  go_enter Try.func18, Try.ntmps18
  go_wp2_with fail
  go_loopw [4] (fun i wr => ∃ k : Nat, k ≤ n ∧ i = .int .i64 k ∧ okTo od ln k ∧ Below w.heap.size w wr ∧
    wr.heap[w.heap.size]? = some (.cells #[.int .u64 g, .int .u32 ep, .int .u64 l, .int .u64 v, .slice (some ⟨b, off, none⟩) n cap, .slice (some ⟨b', off', none⟩) n cap'] 32 (0, 0))) (fun i _ => n - (intOf i).toNat)
  case atStart => exact ⟨0, by omega, rfl, okTo_zero _ _, (Below.refl _ _).alloc (Nat.le_refl _) _, heap_alloc_new _ _⟩
  case round =>
    obtain ⟨k, hk, rfl, hok, hbel, hb0⟩ := hrel
    by_cases hlt : k < n
    · have hlo : k < od.length := by have := HM.out; omega
      have hll : k < ln.length := by have := HN.out; omega
      obtain ⟨x, hx⟩ : ∃ x, x = od[k] := ⟨_, rfl⟩
      obtain ⟨y, hy⟩ : ∃ y, y = ln[k] := ⟨_, rfl⟩
      have c4 := cell_of_row wr w.heap.size 4 _ _ _ hb0
      have c5 := cell_of_row wr w.heap.size 5 _ _ _ hb0
      have r1 : wr.cell? ⟨b, off + k, none⟩ = some (.int .i64 x) := by
        have := C1.out k hlo
        rw [hbel.cell (p := ⟨b, off + k, none⟩) (block_lt_of_cell this), this, hx]
      have r2 : wr.cell? ⟨b', off' + k, none⟩ = some (.int .i64 y) := by
        have := C2.out k hll
        rw [hbel.cell (p := ⟨b', off' + k, none⟩) (block_lt_of_cell this), this, hy]
      have hnext := okTo_next od ln k hlo hll
      rw [← hx, ← hy] at hnext
      have HNX := Lib.hid hnext
      have HOK := Lib.hid hok
      have HX := Lib.hid hx
      have HY := Lib.hid hy
      have HB0 := Lib.hid hb0
      have hfalse : ¬ ((0 ≤ x ∧ x < 16) ∧ (0 ≤ y ∧ y ≤ 30) ∧ x ∉ od.take k) → z = false := by
        intro h
        rw [hz.out]
        apply decide_eq_false
        intro h2
        exact h (hnext.1 (okTo_le od ln (k + 1) od.length h2 hlo)).2
      have HF := Lib.hid hfalse
      clear hnext hok hx hy hfalse
      by_cases p1 : x < 0
      · have e := HF.out (by omega)
        subst e
        clear hb0
        go_wp2_with fail
        go_ret
        exact ⟨rfl, hbel⟩
      · by_cases p2 : 15 < x
        · have e := HF.out (by omega)
          subst e
          clear hb0
          go_wp2_with fail
          go_ret
          exact ⟨rfl, hbel⟩
        · by_cases p5 : y < 0
          · have e := HF.out (by omega)
            subst e
            clear hb0
            go_wp2_with fail
            go_ret
            exact ⟨rfl, hbel⟩
          · by_cases p6 : 30 < y
            · have e := HF.out (by omega)
              subst e
              clear hb0
              go_wp2_with fail
              go_ret
              exact ⟨rfl, hbel⟩
            · clear hb0
              go_wp2_with fail
              clear c4 c5 r1 r2
              go_loopw [5] (fun j wr => ∃ i : Nat, i ≤ k ∧ j = .int .i64 i ∧ x ∉ od.take i ∧ Below w.heap.size w wr ∧
                wr.heap[w.heap.size]? = some (.cells #[.int .u64 g, .int .u32 ep, .int .u64 l, .int .u64 v, .slice (some ⟨b, off, none⟩) n cap, .slice (some ⟨b', off', none⟩) n cap'] 32 (0, 0))) (fun j _ => k - (intOf j).toNat)
              case atStart => exact ⟨0, by omega, rfl, by simp, hbel, HB0.out⟩
              case round =>
                obtain ⟨i, hi, rfl, hni, hbl, hb2⟩ := hrel
                clear hbel
                have HNI := Lib.hid hni
                have HB2 := Lib.hid hb2
                clear hni
                by_cases hik : i < k
                · have hio : i < od.length := by omega
                  obtain ⟨u, hu⟩ : ∃ u, u = od[i] := ⟨_, rfl⟩
                  have HU := Lib.hid hu
                  have c4 := (cell_of_row _ w.heap.size 4 _ _ _ hb2).trans (show _ = some (Value.slice (some ⟨b, off, none⟩) n cap) from rfl)
                  have hin : (i : Int) < (n : Int) := by omega
                  have hkn : (k : Int) < (n : Int) := by omega
                  have r1 := hbl.cell (p := ⟨b, off + k, none⟩) (block_lt_of_cell (C1.out k hlo))
                  have r2 := hbl.cell (p := ⟨b, off + i, none⟩) (block_lt_of_cell (C1.out i hio))
                  rw [C1.out k hlo, ← HX.out] at r1
                  rw [C1.out i hio, ← hu] at r2
                  clear hb2 hu
                  by_cases he : u = x
                  · have e := HF.out (fun h => h.2.2 (by
                      rw [List.mem_take_iff_getElem]
                      exact ⟨i, by omega, by rw [← he, HU.out]⟩))
                    subst e
                    have q5 : (u == x) = true := beq_iff_eq.2 he
                    clear he
                    go_wp2_with fail
                    go_quiet (fail)
                    go_wp2_with fail
                    go_ret
                    exact ⟨rfl, below_step hbl (below_drewN _ _)⟩
                  · have q5 : (u == x) = false := beq_eq_false_iff_ne.2 he
                    have HE := Lib.hid he
                    clear he
                    go_wp2_with fail
                    go_quiet (fail)
                    go_wp2_with fail
                    go_roundw
                    case rel =>
                      refine ⟨i + 1, by omega, by go_num, ?_, below_step hbl (below_drewN _ _), HB2.out⟩
                      rw [List.take_succ_eq_append_getElem hio]
                      intro h
                      rcases List.mem_append.1 h with h | h
                      · exact HNI.out h
                      · rw [List.mem_singleton, ← HU.out] at h
                        exact HE.out h.symm
                    case measure => simp [intOf]; omega
                · obtain rfl : i = k := by omega
                  clear hb2
                  go_wp2_with fail
                  go_roundw
                  case rel => exact ⟨i + 1, by omega, by go_num, HNX.out.2 ⟨HOK.out, ⟨by omega, by omega⟩, ⟨by omega, by omega⟩, HNI.out⟩, hbl, HB2.out⟩
                  case measure => simp [intOf]; omega
    · obtain rfl : k = n := by omega
      have e : z = true := by
        rw [hz.out, ← HM.out]
        exact decide_eq_true hok
      subst e
      clear hok
      go_wp2_with fail
      go_ret
      exact ⟨rfl, hbel⟩

theorem rRight_val (c : Ck) (vo vl : Value) (w : World) (hk : c.Kind) (ho : Sl w vo c.order) (hl : Sl w vl c.lens) (z : Bool) (hz : Hid (z = decide c.Right)) :
    Calls Try.prog 18 #[c.val vo vl] w fun e w' => e = .returned (.bool z) ∧ Below w.heap.size w w' := by
  by_cases h : early c.gen c.lsn c.order.length c.lens.length
  · obtain ⟨oa, cap, rfl⟩ := ho.form
    obtain ⟨oa', cap', rfl⟩ := hl.form
    have e : z = false := by
      rw [hz.out]
      exact decide_eq_false (fun h2 => ((right_okTo c).1 h2).1 h)
    subst e
    exact rRight_early c.gen c.ep c.lsn c.ver c.order.length c.lens.length oa oa' cap cap' w hk.olen hk.llen h
  · have h' := h
    unfold early at h'
    rcases ho with ⟨h0, _⟩ | ⟨_, b, off, cap, rfl, _, hc1⟩
    · rw [h0] at h'; simp at h'
    · rcases hl with ⟨h0, _⟩ | ⟨_, b', off', cap', rfl, _, hc2⟩
      · have : c.lens.length = 0 := by rw [h0]; rfl
        omega
      · refine rRight_late c.gen c.ep c.lsn c.ver c.order c.lens b off cap b' off' cap' w h hc1 hc2 z ?_
        show z = _
        rw [hz.out]
        apply decide_eq_decide.2
        rw [right_okTo]
        exact ⟨fun h2 => h2.2, fun h2 => ⟨h, h2⟩⟩
end Go.Proofs.Ytieijelbflkpeaa.G
