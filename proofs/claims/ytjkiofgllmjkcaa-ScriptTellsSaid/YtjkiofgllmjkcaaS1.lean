/- The same truths? -/
import Derived.Test.YtjkiofgllmjkcaaSm
import Derived.Test.YtjkiofgllmjkcaaGLoose
namespace Go.Proofs.Ytjkiofgllmjkcaa.G
open Go.RowKit
set_option linter.unusedVariables false
set_option linter.unusedSimpArgs false
theorem below_drewN (w : World) (n : Nat) : Below w.heap.size w (w.drewN n) := ⟨rfl, rfl, rfl, Nat.le_refl _, fun _ _ => rfl⟩

set_option maxRecDepth 100000 in
theorem Eq_unlike (m n : Nat) (oa oa' : Option Addr) (cap cap' : Nat) (w : World) (h : m ≠ n) :
    Calls Try.prog 38 #[.slice oa m cap, .slice oa' n cap'] w fun e w' => e = .returned (.bool false) ∧ Below w.heap.size w w' := by
  have q : ((m : Int) == (n : Int)) = false := beq_eq_false_iff_ne.2 (by omega)
  clear h
  go_enter Try.func38, Try.ntmps38
  go_wp2_with fail
  go_ret
  exact ⟨rfl, Below.refl _ _⟩

set_option maxRecDepth 100000 in
theorem Eq_like (l m : List Bool) (n : Nat) (b off cap b' off' cap' : Nat) (w : World) (hl : l.length = n) (hm : m.length = n) (hn : n ≤ 140737488351232)
    (hc1 : ∀ i (h : i < l.length), w.cell? ⟨b, off + i, none⟩ = some (.bool l[i])) (hc2 : ∀ i (h : i < m.length), w.cell? ⟨b', off' + i, none⟩ = some (.bool m[i])) (z : Bool) (hz : Hid (z = decide (l = m))) :
    Calls Try.prog 38 #[.slice (some ⟨b, off, none⟩) n cap, .slice (some ⟨b', off', none⟩) n cap'] w fun e w' => e = .returned (.bool z) ∧ Below w.heap.size w w' := by
  have C1 := Lib.hid hc1
  have C2 := Lib.hid hc2
  have HL := Lib.hid hl
  have HM := Lib.hid hm
  clear hc1 hc2 hl hm
  go_enter Try.func38, Try.ntmps38
  go_wp2_with fail
  go_loopw [13] (fun i wr => ∃ k : Nat, k ≤ n ∧ i = .int .i64 k ∧ l.take k = m.take k ∧ Below w.heap.size w wr) (fun i _ => n - (intOf i).toNat)
  case atStart => exact ⟨0, by omega, rfl, by simp, Below.refl _ _⟩
  case round =>
    obtain ⟨k, hk, rfl, he, hbel⟩ := hrel
    have HE := Lib.hid he
    clear he
    by_cases hlt : k < n
    · have h1 : k < l.length := by have := HL.out; omega
      have h2 : k < m.length := by have := HM.out; omega
      obtain ⟨x, hx⟩ : ∃ x, x = l[k] := ⟨_, rfl⟩
      obtain ⟨y, hy⟩ : ∃ y, y = m[k] := ⟨_, rfl⟩
      have r1 := hbel.cell (p := ⟨b, off + k, none⟩) (block_lt_of_cell (C1.out k h1))
      have r2 := hbel.cell (p := ⟨b', off' + k, none⟩) (block_lt_of_cell (C2.out k h2))
      rw [C1.out k h1, ← hx] at r1
      rw [C2.out k h2, ← hy] at r2
      have hkn : (k : Int) < (n : Int) := by omega
      have HX := Lib.hid hx
      have HY := Lib.hid hy
      clear hx hy
      by_cases hxy : x = y
      · have q : (x == y) = true := beq_iff_eq.2 hxy
        have q2 : (x != y) = false := by rw [bne, q]; rfl
        have HXY := Lib.hid hxy
        clear hxy
        go_wp2_with fail
        go_quiet (fail)
        go_wp2_with fail
        go_roundw
        case rel =>
          refine ⟨k + 1, by omega, by go_num, ?_, below_step hbel (below_drewN _ _)⟩
          rw [List.take_succ_eq_append_getElem h1, List.take_succ_eq_append_getElem h2, HE.out, ← HX.out, ← HY.out, HXY.out]
        case measure => simp [intOf]; omega
      · have q : (x == y) = false := beq_eq_false_iff_ne.2 hxy
        have q2 : (x != y) = true := by rw [bne, q]; rfl
        have e : z = false := by
          rw [hz.out]
          apply decide_eq_false
          intro h
          subst h
          exact hxy (by rw [HX.out, HY.out])
        subst e
        clear hxy
        go_wp2_with fail
        go_quiet (fail)
        go_wp2_with fail
        go_ret
        exact ⟨rfl, below_step hbel (below_drewN _ _)⟩
    · obtain rfl : k = n := by omega
      have e : z = true := by
        rw [hz.out]
        apply decide_eq_true
        have := HE.out
        rw [List.take_of_length_le (by have := HL.out; omega), List.take_of_length_le (by have := HM.out; omega)] at this
        exact this
      subst e
      go_wp2_with fail
      go_ret
      exact ⟨rfl, hbel⟩

set_option maxRecDepth 100000 in
theorem Eq_none (oa oa' : Option Addr) (cap cap' : Nat) (w : World) :
    Calls Try.prog 38 #[.slice oa 0 cap, .slice oa' 0 cap'] w fun e w' => e = .returned (.bool true) ∧ Below w.heap.size w w' := by
  go_enter Try.func38, Try.ntmps38
  go_wp2_with fail
  go_loopw [13] (fun i wr => i = .int .i64 0 ∧ Below w.heap.size w wr) (fun i _ => 0)
  case atStart => exact ⟨rfl, Below.refl _ _⟩
  case round =>
    obtain ⟨rfl, hbel⟩ := hrel
    go_wp2_with fail
    go_ret
    exact ⟨rfl, hbel⟩

theorem Eq_val (l m : List Bool) (v u : Value) (w : World) (hl : l.length ≤ 140737488351232) (ha : Sb w v l) (hb : Sb w u m) (z : Bool) (hz : Hid (z = decide (l = m))) :
    Calls Try.prog 38 #[v, u] w fun e w' => e = .returned (.bool z) ∧ Below w.heap.size w w' := by
  by_cases h : l.length = m.length
  · rcases ha with ⟨rfl, oa, cap, rfl, _⟩ | ⟨hne, b, off, cap, rfl, _, hc1⟩
    · have hm : m = [] := List.length_eq_zero_iff.1 h.symm
      subst hm
      obtain ⟨oa', cap', rfl⟩ := hb.form
      have e : z = true := by rw [hz.out]; rfl
      subst e
      exact Eq_none oa oa' cap cap' w
    · rcases hb with ⟨rfl, _⟩ | ⟨_, b', off', cap', rfl, _, hc2⟩
      · exact absurd (List.length_eq_zero_iff.1 h) hne
      · rw [← h]
        exact Eq_like l m l.length b off cap b' off' cap' w rfl h.symm hl hc1 hc2 z hz
  · obtain ⟨oa, cap, rfl⟩ := ha.form
    obtain ⟨oa', cap', rfl⟩ := hb.form
    have e : z = false := by
      rw [hz.out]
      exact decide_eq_false (fun h2 => h (by rw [h2]))
    subst e
    exact Eq_unlike _ _ oa oa' cap cap' w h

set_option maxRecDepth 100000 in
theorem bools_unlike (m n : Nat) (oa oa' : Option Addr) (cap cap' : Nat) (w : World) (h : m ≠ n) :
    Calls Try.prog 39 #[.slice oa m cap, .slice oa' n cap'] w fun e w' => e = .returned (.bool false) ∧ Below w.heap.size w w' := by
  have q : ((m : Int) == (n : Int)) = false := beq_eq_false_iff_ne.2 (by omega)
  clear h
  go_enter Try.func39, Try.ntmps39
  go_wp2_with fail
  go_ret
  exact ⟨rfl, Below.refl _ _⟩

set_option maxRecDepth 100000 in
theorem bools_like (l m : List Bool) (n : Nat) (b off cap b' off' cap' : Nat) (w : World) (hl : l.length = n) (hm : m.length = n) (hn : n ≤ 140737488351232)
    (hc1 : ∀ i (h : i < l.length), w.cell? ⟨b, off + i, none⟩ = some (.bool l[i])) (hc2 : ∀ i (h : i < m.length), w.cell? ⟨b', off' + i, none⟩ = some (.bool m[i])) (z : Bool) (hz : Hid (z = decide (l = m))) :
    Calls Try.prog 39 #[.slice (some ⟨b, off, none⟩) n cap, .slice (some ⟨b', off', none⟩) n cap'] w fun e w' => e = .returned (.bool z) ∧ Below w.heap.size w w' := by
  have C1 := Lib.hid hc1
  have C2 := Lib.hid hc2
  have HL := Lib.hid hl
  have HM := Lib.hid hm
  clear hc1 hc2 hl hm
  go_enter Try.func39, Try.ntmps39
  go_wp2_with fail
  go_loopw [5] (fun i wr => ∃ k : Nat, k ≤ n ∧ i = .int .i64 k ∧ l.take k = m.take k ∧ Below w.heap.size w wr) (fun i _ => n - (intOf i).toNat)
  case atStart => exact ⟨0, by omega, rfl, by simp, Below.refl _ _⟩
  case round =>
    obtain ⟨k, hk, rfl, he, hbel⟩ := hrel
    have HE := Lib.hid he
    clear he
    by_cases hlt : k < n
    · have h1 : k < l.length := by have := HL.out; omega
      have h2 : k < m.length := by have := HM.out; omega
      obtain ⟨x, hx⟩ : ∃ x, x = l[k] := ⟨_, rfl⟩
      obtain ⟨y, hy⟩ : ∃ y, y = m[k] := ⟨_, rfl⟩
      have r1 := hbel.cell (p := ⟨b, off + k, none⟩) (block_lt_of_cell (C1.out k h1))
      have r2 := hbel.cell (p := ⟨b', off' + k, none⟩) (block_lt_of_cell (C2.out k h2))
      rw [C1.out k h1, ← hx] at r1
      rw [C2.out k h2, ← hy] at r2
      have hkn : (k : Int) < (n : Int) := by omega
      have HX := Lib.hid hx
      have HY := Lib.hid hy
      clear hx hy
      by_cases hxy : x = y
      · have q : (x == y) = true := beq_iff_eq.2 hxy
        have q2 : (x != y) = false := by rw [bne, q]; rfl
        have HXY := Lib.hid hxy
        clear hxy
        go_wp2_with fail
        go_quiet (fail)
        go_wp2_with fail
        go_roundw
        case rel =>
          refine ⟨k + 1, by omega, by go_num, ?_, below_step hbel (below_drewN _ _)⟩
          rw [List.take_succ_eq_append_getElem h1, List.take_succ_eq_append_getElem h2, HE.out, ← HX.out, ← HY.out, HXY.out]
        case measure => simp [intOf]; omega
      · have q : (x == y) = false := beq_eq_false_iff_ne.2 hxy
        have q2 : (x != y) = true := by rw [bne, q]; rfl
        have e : z = false := by
          rw [hz.out]
          apply decide_eq_false
          intro h
          subst h
          exact hxy (by rw [HX.out, HY.out])
        subst e
        clear hxy
        go_wp2_with fail
        go_quiet (fail)
        go_wp2_with fail
        go_ret
        exact ⟨rfl, below_step hbel (below_drewN _ _)⟩
    · obtain rfl : k = n := by omega
      have e : z = true := by
        rw [hz.out]
        apply decide_eq_true
        have := HE.out
        rw [List.take_of_length_le (by have := HL.out; omega), List.take_of_length_le (by have := HM.out; omega)] at this
        exact this
      subst e
      go_wp2_with fail
      go_ret
      exact ⟨rfl, hbel⟩

set_option maxRecDepth 100000 in
theorem bools_none (oa oa' : Option Addr) (cap cap' : Nat) (w : World) :
    Calls Try.prog 39 #[.slice oa 0 cap, .slice oa' 0 cap'] w fun e w' => e = .returned (.bool true) ∧ Below w.heap.size w w' := by
  go_enter Try.func39, Try.ntmps39
  go_wp2_with fail
  go_loopw [5] (fun i wr => i = .int .i64 0 ∧ Below w.heap.size w wr) (fun i _ => 0)
  case atStart => exact ⟨rfl, Below.refl _ _⟩
  case round =>
    obtain ⟨rfl, hbel⟩ := hrel
    go_wp2_with fail
    go_ret
    exact ⟨rfl, hbel⟩

theorem bools_val (l m : List Bool) (v u : Value) (w : World) (hl : l.length ≤ 140737488351232) (ha : Sb w v l) (hb : Sb w u m) (z : Bool) (hz : Hid (z = decide (l = m))) :
    Calls Try.prog 39 #[v, u] w fun e w' => e = .returned (.bool z) ∧ Below w.heap.size w w' := by
  by_cases h : l.length = m.length
  · rcases ha with ⟨rfl, oa, cap, rfl, _⟩ | ⟨hne, b, off, cap, rfl, _, hc1⟩
    · have hm : m = [] := List.length_eq_zero_iff.1 h.symm
      subst hm
      obtain ⟨oa', cap', rfl⟩ := hb.form
      have e : z = true := by rw [hz.out]; rfl
      subst e
      exact bools_none oa oa' cap cap' w
    · rcases hb with ⟨rfl, _⟩ | ⟨_, b', off', cap', rfl, _, hc2⟩
      · exact absurd (List.length_eq_zero_iff.1 h) hne
      · rw [← h]
        exact bools_like l m l.length b off cap b' off' cap' w rfl h.symm hl hc1 hc2 z hz
  · obtain ⟨oa, cap, rfl⟩ := ha.form
    obtain ⟨oa', cap', rfl⟩ := hb.form
    have e : z = false := by
      rw [hz.out]
      exact decide_eq_false (fun h2 => h (by rw [h2]))
    subst e
    exact bools_unlike _ _ oa oa' cap cap' w h

end Go.Proofs.Ytjkiofgllmjkcaa.G
