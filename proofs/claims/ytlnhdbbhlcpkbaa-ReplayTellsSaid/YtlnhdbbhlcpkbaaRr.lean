/- Lists of sessions, for the document: Lives, Same. -/
import Derived.Test.YtlnhdbbhlcpkbaaRp
import Derived.Test.YtlnhdbbhlcpkbaaGRows
import Derived.Test.YtlnhdbbhlcpkbaaGLoose
import Derived.Test.YtlnhdbbhlcpkbaaGTail
import Derived.Test.YtlnhdbbhlcpkbaaGFast
import Derived.BigQuiet
import Derived.BigRegion
import Derived.Deep.AppendLies
import Derived.Deep.WholeRow
import Derived.Lib.Hide
namespace Go.Proofs.Ytlnhdbbhlcpkbaa.G
open Go.RowKit Go.Maps Go.Proofs.Ytlnhdbbhlcpkbaa.WordPlain Go.Proofs.Ytlnhdbbhlcpkbaa.Loose
set_option linter.unusedVariables false
set_option linter.unusedSimpArgs false

theorem below_drew {B : Nat} {w W : World} (h : Below B w W) : Below B w W.drew := ⟨h.os, h.tape, h.output, h.size, h.block⟩
theorem ses2_info : ∃ i z, Try.prog.info? 61 = some i ∧ i.zero = some z ∧ i.size = 3 ∧ i.bytes = 40 ∧ z.cells.size = 3 := by
  have h : (Try.prog.info? 61).map (fun i => (i.zero.map (·.cells.size), i.size, i.bytes)) = some (some 3, 3, 40) := by kernel_rfl
  cases hq : Try.prog.info? 61 with
  | none => rw [hq] at h; cases h
  | some i =>
    rw [hq] at h; simp at h
    obtain ⟨⟨z, hz, hz2⟩, h3, h4⟩ := h
    exact ⟨i, z, rfl, hz, h3, h4, hz2⟩
def NewSl (ty : TypeId) (cs : List Value) (u : Value) (W : World) : Prop := ∃ b, u = .slice (some ⟨b, 0, none⟩) 1 1 ∧ W.heap[b]? = some (.cells cs.toArray ty (0, 0))
theorem stab_newsl (ty : TypeId) (cs : List Value) : Stab (NewSl ty cs) := by
  rintro v w w' ⟨b, h1, h2⟩ hb
  exact ⟨b, h1, (hb.block b (lt_of_rowR h2)).trans h2⟩

set_option maxRecDepth 100000 in
set_option maxHeartbeats 4000000 in
theorem Lives_val (w : World) (v : Value) (l : List Ses) (hv : LR 3 encS w v l) (hl : l.length ≤ 1000000) :
    Calls Try.prog 15 #[v] w fun e w' => (∃ u, e = .returned u ∧ LR 3 encS w' u l) ∧ Below w.heap.size w w' := by
  obtain ⟨oa, cap, rfl, _, hx⟩ := hv
  obtain ⟨n, hn⟩ : ∃ n, n = l.length := ⟨_, rfl⟩
  rw [← hn] at hl ⊢
  have HX := Lib.hid hx
  have HN := Lib.hid hn
  have h0 := own_new w 61 3 encS w.heap.size (Nat.le_refl _)
  have hb0 := (Below.refl w.heap.size w).alloc (Nat.le_refl _) (.cells #[] 61)
  have H0 := Lib.hid h0
  have HB0 := Lib.hid hb0
  clear hx hn h0 hb0
  go_enter Try.func15, Try.ntmps15
  go_wp2_with fail
  go_loopw [3, 4] (fun o i wr => ∃ (r : Nat) (lv : Value), r ≤ n ∧ i = .int .i64 r ∧ lv = o ∧ OwnL w.heap.size 61 3 encS wr lv (l.take r) ∧ Below w.heap.size w wr) (fun _ i _ => n - (intOf i).toNat)
  case atStart => exact ⟨0, _, by omega, rfl, rfl, H0.out, HB0.out⟩
  case round =>
    obtain ⟨r, lv, hr, rfl, rfl, hown, hbl⟩ := hrel
    have OWN := Lib.hid hown
    have BL := Lib.hid hbl
    clear hown hbl
    by_cases hlt : r < n
    · have hrk : r < l.length := by have := HN.out; omega
      have hkn' : (r : Int) < (n : Int) := by omega
      obtain ⟨b', off, hoa, hcell⟩ := HX.out r hrk
      have htk : l.take (r + 1) = l.take r ++ [l[r]] := List.take_succ_eq_append_getElem hrk
      obtain ⟨s, hs⟩ : ∃ s, s = l[r] := ⟨_, rfl⟩
      rw [← hs] at hcell htk
      obtain ⟨i, v, d⟩ := s
      have hlt0 := lt_of_cellR (hcell 0 (.string i) rfl)
      have t0 : ∀ V, Below wr.heap.size wr V → V.cell? ⟨b', off + r * 3, none⟩ = some (.string i) := fun V hV => ((stepR BL.out hV).cell (p := ⟨b', off + r * 3, none⟩) hlt0).trans (hcell 0 (.string i) rfl)
      have t1 : ∀ V, Below wr.heap.size wr V → V.cell? ⟨b', off + r * 3 + 1, none⟩ = some (.string v) := fun V hV => ((stepR BL.out hV).cell (p := ⟨b', off + r * 3 + 1, none⟩) hlt0).trans (hcell 1 (.string v) rfl)
      have t2 : ∀ V, Below wr.heap.size wr V → V.cell? ⟨b', off + r * 3 + 2, none⟩ = some (.int .u64 (d : Int)) := fun V hV => ((stepR BL.out hV).cell (p := ⟨b', off + r * 3 + 2, none⟩) hlt0).trans (hcell 2 (.int .u64 (d : Int)) rfl)
      obtain ⟨ii, zz, i1, i2, i3, i4, i5⟩ := ses2_info
      have I1 := Lib.hid i1
      have I2 := Lib.hid i2
      have I3 := Lib.hid i3
      have I4 := Lib.hid i4
      have I5 := Lib.hid i5
      have HTK := Lib.hid htk
      have hln : (l.take r).length = r := by rw [List.length_take]; omega
      obtain ⟨L, hL⟩ : ∃ L, L = l.take r := ⟨_, rfl⟩
      rw [← hL] at OWN HTK hln
      subst hoa
      clear hcell htk hs i1 i2 i3 i4 i5 hL hlt0
      go_wp2_with fail
      refine wp_region_tail [0, 1, 2, 3, 4, 5, 6, 7, 8, 9, 10, 11, 12, 13, 14, 15, 16, 17] 18 2 (by kernel_rfl) (by kernel_rfl) (by kernel_rfl) ?_
      refine wpM_det rfl ?_
      apply Exists.intro
      refine ⟨?_, ?_⟩
      · intro vs w' hC hk
        (try simp [Know.add, depOn, Region.binds] at hk)
        go_simp
        exact ⟨Below.refl _ _, rfl⟩
      refine wpM_det rfl ?_
      apply Exists.intro
      refine ⟨?_, ?_⟩
      · intro vs w' hC hk
        (try simp [Know.add, depOn, Region.binds] at hk)
        go_simp
        exact ⟨Below.refl _ _, rfl⟩
      refine wpM_det rfl ?_
      apply Exists.intro
      refine ⟨?_, ?_⟩
      · intro vs w' hC hk
        (try simp [Know.add, depOn, Region.binds] at hk)
        go_simp
        exact ⟨Below.refl _ _, rfl⟩
      refine wpM_det rfl ?_
      apply Exists.intro
      refine ⟨?_, ?_⟩
      · intro vs w' hC hk
        (try simp [Know.add, depOn, Region.binds] at hk)
        go_simp
        exact ⟨Below.refl _ _, rfl⟩
      refine wpM_det rfl ?_
      apply Exists.intro
      refine ⟨?_, ?_⟩
      · intro vs w' hC hk
        (try simp [Know.add, depOn, Region.binds] at hk)
        go_simp
        exact ⟨Below.refl _ _, rfl⟩
      refine wpM_det rfl ?_
      apply Exists.intro
      refine ⟨?_, ?_⟩
      · intro vs w' hC hk
        (try simp [Know.add, depOn, Region.binds] at hk)
        go_simp
        exact ⟨Below.refl _ _, rfl⟩
      refine wpM_det rfl ?_
      apply Exists.intro
      refine ⟨?_, ?_⟩
      · intro vs w' hC hk
        (try simp [Know.add, depOn, Region.binds] at hk)
        go_simp
        exact ⟨Below.refl _ _, rfl⟩
      refine wpM_det rfl ?_
      apply Exists.intro
      refine ⟨?_, ?_⟩
      · intro vs w' hC hk
        (try simp [Know.add, depOn, Region.binds] at hk)
        go_simp
        exact ⟨Below.refl _ _, rfl⟩
      refine wpM_det rfl ?_
      apply Exists.intro
      refine ⟨?_, ?_⟩
      · intro vs w' hC hk
        (try simp [Know.add, depOn, Region.binds] at hk)
        go_simp
        exact ⟨Below.refl _ _, rfl⟩
      refine wpM_det rfl ?_
      apply Exists.intro
      refine ⟨?_, ?_⟩
      · intro vs w' hC hk
        (try simp [Know.add, depOn, Region.binds] at hk)
        go_simp
        exact ⟨Below.refl _ _, rfl⟩
      refine wpM_det rfl ?_
      apply Exists.intro
      refine ⟨?_, ?_⟩
      · intro vs w' hC hk
        (try simp [Know.add, depOn, Region.binds] at hk)
        go_simp
        exact ⟨Below.refl _ _, rfl⟩
      refine wpM_det rfl ?_
      apply Exists.intro
      refine ⟨?_, ?_⟩
      · intro vs w' hC hk
        (try simp [Know.add, depOn, Region.binds] at hk)
        go_simp
        exact ⟨Below.refl _ _, rfl⟩
      refine wpM_det rfl ?_
      apply Exists.intro
      refine ⟨?_, ?_⟩
      · intro vs w' hC hk
        (try simp [Know.add, depOn, Region.binds] at hk)
        go_simp
        exact ⟨Below.refl _ _, rfl⟩
      refine wpM_det rfl ?_
      apply Exists.intro
      refine ⟨?_, ?_⟩
      · intro vs w' hC hk
        (try simp [Know.add, depOn, Region.binds] at hk)
        go_simp
        exact ⟨Below.refl _ _, rfl⟩
      refine wpM_det rfl ?_
      apply Exists.intro
      refine ⟨?_, ?_⟩
      · intro vs w' hC hk
        (try simp [Know.add, depOn, Region.binds] at hk)
        go_simp
        exact ⟨Below.refl _ _, rfl⟩
      refine wpM_det rfl ?_
      apply Exists.intro
      refine ⟨?_, ?_⟩
      · intro vs w' hC hk
        (try simp [Know.add, depOn, Region.binds] at hk)
        go_simp
        exact ⟨Below.refl _ _, rfl⟩
      refine wpM_det rfl ?_
      apply Exists.intro
      refine ⟨?_, ?_⟩
      · intro vs w' hC hk
        (try simp [Know.add, depOn, Region.binds] at hk)
        go_simp
        exact ⟨Below.refl _ _, rfl⟩
      refine wpM_step rfl (NewSl 61 [.string i, .string v, .int .u64 (d : Int)]) (stab_newsl _ _) ?_ ?_
      · intro vs w' hC hk
        (try simp [Know.add, depOn, Region.binds] at hk)
        go_simp
        exact ⟨(Below.refl _ _).alloc (Nat.le_refl _) _, _, rfl, heap_alloc_new _ _⟩
      refine wpM_nil ?_
      intro vs w' hC hk
      have h17 : NewSl 61 [.string i, .string v, .int .u64 (d : Int)] (vs 17) w' := hk.2 (by kernel_rfl)
      have h0' : vs 0 = lv := hk.1.1.1.1.1.1.1.1.1.1.1.1.1.1.1.1.1.2 (by kernel_rfl)
      clear hk t0 t1 t2
      obtain ⟨nb, h17, hnb⟩ := h17
      have HNB := Lib.hid hnb
      have hC' := hC
      clear hnb
      go_simp
      refine wpAny_one 18 ?_ rfl ?_
      · kernel_rfl
      intro K hK
      rw [if_pos (by rfl)]
      refine wp_append_lies w' _ _ 31 rfl w.heap.size 61 ii zz 3 40 Try.underlying31 I1.out I2.out I3.out I4.out I5.out (by decide) lv L.length (L.flatMap encS) ?g0 ?h0 ⟨nb, 0, none⟩ 1 1 [.string i, .string v, .int .u64 (d : Int)] ?g1 rfl ?h1 ?h2 ?h3 ?h4 ?h5 ?h6 _ rfl ?_
      case g0 => go_simp
      case g1 => go_simp
      case h0 => exact OWN.out.kept (grown_belowR hC) (apartR (by simp))
      case h1 => exact World.news_of_block HNB.out
      case h2 => simp [Value.oneCell']
      case h3 => decide
      case h4 => simp only [maxLen]; omega
      case h5 => omega
      case h6 => have := hC.size; have := BL.out.size; omega
      intro g cap5 w5 hown5 hg hw hlt5
      refine hK _ _ ?_
      clear hK K
      have hbw : Below w.heap.size w w5 := (stepR BL.out hC').trans (below_grownR hg (fun k hk => (own_geR OWN.out k hk).1) (by have := hC'.size; have := BL.out.size; omega))
      have hown6 : OwnL w.heap.size 61 3 encS w5 (.slice (some ⟨g, 0, none⟩) (L.length + 1) cap5) (l.take (r + 1)) := by
        rw [HTK.out]
        show w5.ownsRow _ _ _ _ (L ++ [_]).length ((L ++ [_]).flatMap encS)
        rw [flat_snoc, List.length_append]
        exact hown5
      have OWN6 := Lib.hid hown6
      have BW6 := Lib.hid hbw
      clear hown6 hbw hown5 hg hw hlt5
      go_simp
      refine wpAny_one 19 ?_ rfl ?_
      · kernel_rfl
      intro K hK
      rw [if_pos (by rfl)]
      go_simp
      refine hK _ _ ?_
      clear hK K
      refine wpAny_done (by kernel_rfl) ?_ _
      go_wp2_with fail
      go_roundw
      case rel => exact ⟨r + 1, _, by omega, by go_num, rfl, by rw [← hln]; rw [hln] at OWN6 ⊢; exact OWN6.out, BW6.out⟩
      case measure => simp [intOf]; omega
    · obtain rfl : r = n := by omega
      have ht : l.take r = l := List.take_of_length_le (by have := HN.out; omega)
      have hl2 := own_lr (k := 3) (enc := encS) (fun _ => rfl) OWN.out
      rw [ht] at hl2
      have HL := Lib.hid hl2
      clear ht hl2 hlt
      go_wp2_with fail
      go_ret
      exact ⟨⟨_, rfl, HL.out⟩, BL.out⟩

theorem str_ne {a b : ByteArray} (h : a ≠ b) : (a.toList = b.toList) = False := eq_false fun e => by
  rw [ByteArray.toList_eq, ByteArray.toList_eq] at e
  exact h (ByteArray.ext (Array.toList_inj.1 e))
set_option maxRecDepth 100000 in
set_option maxHeartbeats 4000000 in
theorem Same_core (w : World) (b off b' off' cap cap' n : Nat) (l m : List Ses) (hn : n = l.length) (hm : n = m.length) (hn6 : n ≤ 1000000)
    (hx : ∀ i (h : i < l.length), ∀ j u, (encS l[i])[j]? = some u → w.cell? ⟨b, off + i * 3 + j, none⟩ = some u) (hy : ∀ i (h : i < m.length), ∀ j u, (encS m[i])[j]? = some u → w.cell? ⟨b', off' + i * 3 + j, none⟩ = some u) :
    Calls Try.prog 14 #[.slice (some ⟨b, off, none⟩) n cap, .slice (some ⟨b', off', none⟩) n cap'] w fun e w' => e = .returned (.bool (decide (l = m))) ∧ Below w.heap.size w w' := by
  obtain ⟨zz, hzz⟩ : ∃ z, z = decide (l = m) := ⟨_, rfl⟩
  rw [← hzz]
  have HZZ := Lib.hid hzz
  clear hzz
  have HX := Lib.hid hx
  have HY := Lib.hid hy
  have HN := Lib.hid hn
  have HM := Lib.hid hm
  clear hx hy hn hm
  go_enter Try.func14, Try.ntmps14
  go_wp2_with fail
  go_loopw [5] (fun i wr => ∃ r : Nat, r ≤ n ∧ i = .int .i64 r ∧ l.take r = m.take r ∧ Below w.heap.size w wr) (fun i _ => n - (intOf i).toNat)
  case atStart => exact ⟨0, by omega, rfl, by simp, Below.refl _ _⟩
  case round =>
    obtain ⟨r, hr, rfl, heq, hbl⟩ := hrel
    have HE := Lib.hid heq
    have BL := Lib.hid hbl
    clear heq hbl
    by_cases hlt : r < n
    · have hrl : r < l.length := by have := HN.out; omega
      have hrm : r < m.length := by have := HM.out; omega
      have hkn' : (r : Int) < (n : Int) := by omega
      have cx := HX.out r hrl
      have cy := HY.out r hrm
      have hdec : l[r] = m[r] → l.take (r + 1) = m.take (r + 1) := fun e => by rw [List.take_succ_eq_append_getElem hrl, List.take_succ_eq_append_getElem hrm, HE.out, e]
      have hne : l[r] ≠ m[r] → l ≠ m := fun h e => h (by subst e; rfl)
      obtain ⟨s, hs⟩ : ∃ s, s = l[r] := ⟨_, rfl⟩
      obtain ⟨t, ht⟩ : ∃ s, s = m[r] := ⟨_, rfl⟩
      rw [← hs] at cx hdec hne
      rw [← ht] at cy hdec hne
      have HD := Lib.hid hdec
      have HNE := Lib.hid hne
      clear hs ht hdec hne
      obtain ⟨i, v, d⟩ := s
      obtain ⟨i', v', d'⟩ := t
      have hl1 := lt_of_cellR (cx 0 (.string i) rfl)
      have hl2 := lt_of_cellR (cy 0 (.string i') rfl)
      have x0 : wr.cell? ⟨b, off + r * 3, none⟩ = some (.string i) := (BL.out.cell (p := ⟨b, off + r * 3, none⟩) hl1).trans (cx 0 _ rfl)
      have x1 : wr.cell? ⟨b, off + r * 3 + 1, none⟩ = some (.string v) := (BL.out.cell (p := ⟨b, off + r * 3 + 1, none⟩) hl1).trans (cx 1 _ rfl)
      have x2 : wr.cell? ⟨b, off + r * 3 + 2, none⟩ = some (.int .u64 (d : Int)) := (BL.out.cell (p := ⟨b, off + r * 3 + 2, none⟩) hl1).trans (cx 2 _ rfl)
      have y0 : wr.cell? ⟨b', off' + r * 3, none⟩ = some (.string i') := (BL.out.cell (p := ⟨b', off' + r * 3, none⟩) hl2).trans (cy 0 _ rfl)
      have y1 : wr.cell? ⟨b', off' + r * 3 + 1, none⟩ = some (.string v') := (BL.out.cell (p := ⟨b', off' + r * 3 + 1, none⟩) hl2).trans (cy 1 _ rfl)
      have y2 : wr.cell? ⟨b', off' + r * 3 + 2, none⟩ = some (.int .u64 (d' : Int)) := (BL.out.cell (p := ⟨b', off' + r * 3 + 2, none⟩) hl2).trans (cy 2 _ rfl)
      clear cx cy hl1 hl2
      by_cases e1 : i = i'
      · by_cases e2 : v = v'
        · by_cases e3 : d = d'
          · have HD2 := Lib.hid (HD.out (by rw [e1, e2, e3]))
            subst e1 e2 e3
            go_wp2_with fail
            go_region
            go_wp2_with fail
            go_roundw
            case rel => exact ⟨r + 1, by omega, by go_num, HD2.out, stepR BL.out (below_drew (Below.refl _ _))⟩
            case measure => simp [intOf]; omega
          · have HZ0 : Hid (zz = false) := Lib.hid (by rw [HZZ.out, decide_eq_false (HNE.out (fun e => e3 (by injection e)))])
            have q3 : ((d : Int) = (d' : Int)) = False := eq_false (by omega)
            subst e1 e2
            clear e3
            go_wp2_with fail
            go_region
            go_wp2_with fail
            go_ret
            exact ⟨by rw [HZ0.out]; rfl, stepR BL.out (below_drew (Below.refl _ _))⟩
        · have HZ0 : Hid (zz = false) := Lib.hid (by rw [HZZ.out, decide_eq_false (HNE.out (fun e => e2 (by injection e)))])
          have q2 := str_ne e2
          subst e1
          clear e2
          go_wp2_with fail
          go_region
          go_wp2_with fail
          go_ret
          exact ⟨by rw [HZ0.out]; rfl, stepR BL.out (below_drew (Below.refl _ _))⟩
      · have HZ0 : Hid (zz = false) := Lib.hid (by rw [HZZ.out, decide_eq_false (HNE.out (fun e => e1 (by injection e)))])
        have q1 := str_ne e1
        clear e1
        go_wp2_with fail
        go_region
        go_wp2_with fail
        go_ret
        exact ⟨by rw [HZ0.out]; rfl, stepR BL.out (below_drew (Below.refl _ _))⟩
    · obtain rfl : r = n := by omega
      have e : l = m := by
        have := HE.out
        rw [List.take_of_length_le (by have := HN.out; omega), List.take_of_length_le (by have := HM.out; omega)] at this
        exact this
      have HZ0 : Hid (zz = true) := Lib.hid (by rw [HZZ.out, decide_eq_true e])
      clear e hlt
      go_wp2_with fail
      go_ret
      exact ⟨by rw [HZ0.out]; rfl, BL.out⟩
set_option maxRecDepth 100000 in
theorem Same_unlike (w : World) (oa oa' : Option Addr) (m n cap cap' : Nat) (h : (m = n) = False) (h2 : (m == n) = false) (h3 : ((m : Int) == (n : Int)) = false) (h4 : (m != n) = true) (h5 : ((m : Int) != (n : Int)) = true) :
    Calls Try.prog 14 #[.slice oa m cap, .slice oa' n cap'] w fun e w' => e = .returned (.bool false) ∧ Below w.heap.size w w' := by
  go_enter Try.func14, Try.ntmps14
  go_wp2_with fail
  go_ret
  exact ⟨rfl, Below.refl _ _⟩
set_option maxRecDepth 100000 in
theorem Same_none (w : World) (oa oa' : Option Addr) (cap cap' : Nat) :
    Calls Try.prog 14 #[.slice oa 0 cap, .slice oa' 0 cap'] w fun e w' => e = .returned (.bool true) ∧ Below w.heap.size w w' := by
  go_enter Try.func14, Try.ntmps14
  go_wp2_with fail
  go_loopw [5] (fun i wr => i = .int .i64 0 ∧ Below w.heap.size w wr) (fun i _ => 0)
  case atStart => exact ⟨rfl, Below.refl _ _⟩
  case round =>
    obtain ⟨rfl, hbl⟩ := hrel
    go_wp2_with fail
    go_ret
    exact ⟨rfl, hbl⟩
theorem Same_val (w : World) (u v : Value) (l m : List Ses) (hu : LR 3 encS w u l) (hv : LR 3 encS w v m) (hl : l.length ≤ 1000000) :
    Calls Try.prog 14 #[u, v] w fun e w' => e = .returned (.bool (decide (l = m))) ∧ Below w.heap.size w w' := by
  obtain ⟨oa, cap, rfl, _, hx⟩ := hu
  obtain ⟨ob, cap', rfl, _, hy⟩ := hv
  by_cases hlm : l.length = m.length
  · by_cases h0 : l.length = 0
    · have e1 : l = [] := List.length_eq_zero_iff.1 h0
      have e2 : m = [] := List.length_eq_zero_iff.1 (by omega)
      subst e1 e2
      rw [decide_eq_true rfl]
      exact Same_none w oa ob cap cap'
    · obtain ⟨b, off, rfl, _⟩ := hx 0 (by omega)
      obtain ⟨b', off', rfl, _⟩ := hy 0 (by omega)
      rw [← hlm]
      refine Same_core w b off b' off' cap cap' l.length l m rfl hlm hl (fun i h => ?_) (fun i h => ?_)
      · obtain ⟨_, _, e, hc⟩ := hx i h
        injection e with e
        injection e with e3 e4
        subst e3 e4
        exact hc
      · obtain ⟨_, _, e, hc⟩ := hy i h
        injection e with e
        injection e with e3 e4
        subst e3 e4
        exact hc
  · rw [decide_eq_false (fun e => hlm (by rw [e]))]
    exact Same_unlike w oa ob _ _ cap cap' (eq_false hlm) (beq_eq_false_iff_ne.2 hlm) (beq_eq_false_iff_ne.2 (by omega)) (bne_iff_ne.2 hlm) (bne_iff_ne.2 (by omega))
set_option maxRecDepth 100000 in
set_option maxHeartbeats 4000000 in
theorem Recs_core (w : World) (b off b' off' cap cap' n : Nat) (l m : List Rec) (hn : n = l.length) (hm : n = m.length) (hn6 : n ≤ 1000000)
    (hx : ∀ i (h : i < l.length), ∀ j u, (encR l[i])[j]? = some u → w.cell? ⟨b, off + i * 7 + j, none⟩ = some u) (hy : ∀ i (h : i < m.length), ∀ j u, (encR m[i])[j]? = some u → w.cell? ⟨b', off' + i * 7 + j, none⟩ = some u) :
    Calls Try.prog 10 #[.slice (some ⟨b, off, none⟩) n cap, .slice (some ⟨b', off', none⟩) n cap'] w fun e w' => e = .returned (.bool (decide (l = m))) ∧ Below w.heap.size w w' := by
  obtain ⟨zz, hzz⟩ : ∃ z, z = decide (l = m) := ⟨_, rfl⟩
  rw [← hzz]
  have HZZ := Lib.hid hzz
  clear hzz
  have HX := Lib.hid hx
  have HY := Lib.hid hy
  have HN := Lib.hid hn
  have HM := Lib.hid hm
  clear hx hy hn hm
  go_enter Try.func10, Try.ntmps10
  go_wp2_with fail
  go_loopw [5] (fun i wr => ∃ r : Nat, r ≤ n ∧ i = .int .i64 r ∧ l.take r = m.take r ∧ Below w.heap.size w wr) (fun i _ => n - (intOf i).toNat)
  case atStart => exact ⟨0, by omega, rfl, by simp, Below.refl _ _⟩
  case round =>
    obtain ⟨r, hr, rfl, heq, hbl⟩ := hrel
    have HE := Lib.hid heq
    have BL := Lib.hid hbl
    clear heq hbl
    by_cases hlt : r < n
    · have hrl : r < l.length := by have := HN.out; omega
      have hrm : r < m.length := by have := HM.out; omega
      have hkn' : (r : Int) < (n : Int) := by omega
      have cx := HX.out r hrl
      have cy := HY.out r hrm
      have hdec : l[r] = m[r] → l.take (r + 1) = m.take (r + 1) := fun e => by rw [List.take_succ_eq_append_getElem hrl, List.take_succ_eq_append_getElem hrm, HE.out, e]
      have hne : l[r] ≠ m[r] → l ≠ m := fun h e => h (by subst e; rfl)
      obtain ⟨s, hs⟩ : ∃ s, s = l[r] := ⟨_, rfl⟩
      obtain ⟨t, ht⟩ : ∃ s, s = m[r] := ⟨_, rfl⟩
      rw [← hs] at cx hdec hne
      rw [← ht] at cy hdec hne
      have HD := Lib.hid hdec
      have HNE := Lib.hid hne
      clear hs ht hdec hne
      obtain ⟨la1, pa1, ka1, va1, da1, ia1, ta1⟩ := s
      obtain ⟨la2, pa2, ka2, va2, da2, ia2, ta2⟩ := t
      have hl1 := lt_of_cellR (cx 0 (.int .u64 (la1 : Int)) rfl)
      have hl2 := lt_of_cellR (cy 0 (.int .u64 (la2 : Int)) rfl)
      have x0 : wr.cell? ⟨b, off + r * 7, none⟩ = some (.int .u64 (la1 : Int)) := (BL.out.cell (p := ⟨b, off + r * 7, none⟩) hl1).trans (cx 0 _ rfl)
      have y0 : wr.cell? ⟨b', off' + r * 7, none⟩ = some (.int .u64 (la2 : Int)) := (BL.out.cell (p := ⟨b', off' + r * 7, none⟩) hl2).trans (cy 0 _ rfl)
      have x1 : wr.cell? ⟨b, off + r * 7 + 1, none⟩ = some (.int .u32 (pa1 : Int)) := (BL.out.cell (p := ⟨b, off + r * 7 + 1, none⟩) hl1).trans (cx 1 _ rfl)
      have y1 : wr.cell? ⟨b', off' + r * 7 + 1, none⟩ = some (.int .u32 (pa2 : Int)) := (BL.out.cell (p := ⟨b', off' + r * 7 + 1, none⟩) hl2).trans (cy 1 _ rfl)
      have x2 : wr.cell? ⟨b, off + r * 7 + 2, none⟩ = some (.int .i64 ka1) := (BL.out.cell (p := ⟨b, off + r * 7 + 2, none⟩) hl1).trans (cx 2 _ rfl)
      have y2 : wr.cell? ⟨b', off' + r * 7 + 2, none⟩ = some (.int .i64 ka2) := (BL.out.cell (p := ⟨b', off' + r * 7 + 2, none⟩) hl2).trans (cy 2 _ rfl)
      have x3 : wr.cell? ⟨b, off + r * 7 + 3, none⟩ = some (.int .u64 (va1 : Int)) := (BL.out.cell (p := ⟨b, off + r * 7 + 3, none⟩) hl1).trans (cx 3 _ rfl)
      have y3 : wr.cell? ⟨b', off' + r * 7 + 3, none⟩ = some (.int .u64 (va2 : Int)) := (BL.out.cell (p := ⟨b', off' + r * 7 + 3, none⟩) hl2).trans (cy 3 _ rfl)
      have x4 : wr.cell? ⟨b, off + r * 7 + 4, none⟩ = some (.int .u64 (da1 : Int)) := (BL.out.cell (p := ⟨b, off + r * 7 + 4, none⟩) hl1).trans (cx 4 _ rfl)
      have y4 : wr.cell? ⟨b', off' + r * 7 + 4, none⟩ = some (.int .u64 (da2 : Int)) := (BL.out.cell (p := ⟨b', off' + r * 7 + 4, none⟩) hl2).trans (cy 4 _ rfl)
      have x5 : wr.cell? ⟨b, off + r * 7 + 5, none⟩ = some (.string ia1) := (BL.out.cell (p := ⟨b, off + r * 7 + 5, none⟩) hl1).trans (cx 5 _ rfl)
      have y5 : wr.cell? ⟨b', off' + r * 7 + 5, none⟩ = some (.string ia2) := (BL.out.cell (p := ⟨b', off' + r * 7 + 5, none⟩) hl2).trans (cy 5 _ rfl)
      have x6 : wr.cell? ⟨b, off + r * 7 + 6, none⟩ = some (.string ta1) := (BL.out.cell (p := ⟨b, off + r * 7 + 6, none⟩) hl1).trans (cx 6 _ rfl)
      have y6 : wr.cell? ⟨b', off' + r * 7 + 6, none⟩ = some (.string ta2) := (BL.out.cell (p := ⟨b', off' + r * 7 + 6, none⟩) hl2).trans (cy 6 _ rfl)
      clear cx cy hl1 hl2
      by_cases e0 : la1 = la2
      rotate_left
      · have HZ0 : Hid (zz = false) := Lib.hid (by rw [HZZ.out, decide_eq_false (HNE.out (fun e => e0 (by injection e)))])
        have q0 : ((la1 : Int) = (la2 : Int)) = False := eq_false (by omega)
        clear e0
        go_wp2_with fail
        go_region
        go_wp2_with fail
        go_ret
        exact ⟨by rw [HZ0.out]; rfl, stepR BL.out (below_drew (Below.refl _ _))⟩
      by_cases e1 : pa1 = pa2
      rotate_left
      · have HZ0 : Hid (zz = false) := Lib.hid (by rw [HZZ.out, decide_eq_false (HNE.out (fun e => e1 (by injection e)))])
        have q1 : ((pa1 : Int) = (pa2 : Int)) = False := eq_false (by omega)
        subst e0
        clear e1
        go_wp2_with fail
        go_region
        go_wp2_with fail
        go_ret
        exact ⟨by rw [HZ0.out]; rfl, stepR BL.out (below_drew (Below.refl _ _))⟩
      by_cases e2 : ka1 = ka2
      rotate_left
      · have HZ0 : Hid (zz = false) := Lib.hid (by rw [HZZ.out, decide_eq_false (HNE.out (fun e => e2 (by injection e)))])
        have q2 : (ka1 = ka2) = False := eq_false e2
        subst e0 e1
        clear e2
        go_wp2_with fail
        go_region
        go_wp2_with fail
        go_ret
        exact ⟨by rw [HZ0.out]; rfl, stepR BL.out (below_drew (Below.refl _ _))⟩
      by_cases e3 : va1 = va2
      rotate_left
      · have HZ0 : Hid (zz = false) := Lib.hid (by rw [HZZ.out, decide_eq_false (HNE.out (fun e => e3 (by injection e)))])
        have q3 : ((va1 : Int) = (va2 : Int)) = False := eq_false (by omega)
        subst e0 e1 e2
        clear e3
        go_wp2_with fail
        go_region
        go_wp2_with fail
        go_ret
        exact ⟨by rw [HZ0.out]; rfl, stepR BL.out (below_drew (Below.refl _ _))⟩
      by_cases e4 : da1 = da2
      rotate_left
      · have HZ0 : Hid (zz = false) := Lib.hid (by rw [HZZ.out, decide_eq_false (HNE.out (fun e => e4 (by injection e)))])
        have q4 : ((da1 : Int) = (da2 : Int)) = False := eq_false (by omega)
        subst e0 e1 e2 e3
        clear e4
        go_wp2_with fail
        go_region
        go_wp2_with fail
        go_ret
        exact ⟨by rw [HZ0.out]; rfl, stepR BL.out (below_drew (Below.refl _ _))⟩
      by_cases e5 : ia1 = ia2
      rotate_left
      · have HZ0 : Hid (zz = false) := Lib.hid (by rw [HZZ.out, decide_eq_false (HNE.out (fun e => e5 (by injection e)))])
        have q5 := str_ne e5
        subst e0 e1 e2 e3 e4
        clear e5
        go_wp2_with fail
        go_region
        go_wp2_with fail
        go_ret
        exact ⟨by rw [HZ0.out]; rfl, stepR BL.out (below_drew (Below.refl _ _))⟩
      by_cases e6 : ta1 = ta2
      rotate_left
      · have HZ0 : Hid (zz = false) := Lib.hid (by rw [HZZ.out, decide_eq_false (HNE.out (fun e => e6 (by injection e)))])
        have q6 := str_ne e6
        subst e0 e1 e2 e3 e4 e5
        clear e6
        go_wp2_with fail
        go_region
        go_wp2_with fail
        go_ret
        exact ⟨by rw [HZ0.out]; rfl, stepR BL.out (below_drew (Below.refl _ _))⟩
      have HD2 := Lib.hid (HD.out (by rw [e0, e1, e2, e3, e4, e5, e6]))
      subst e0 e1 e2 e3 e4 e5 e6
      go_wp2_with fail
      go_region
      go_wp2_with fail
      go_roundw
      case rel => exact ⟨r + 1, by omega, by go_num, HD2.out, stepR BL.out (below_drew (Below.refl _ _))⟩
      case measure => simp [intOf]; omega
    · obtain rfl : r = n := by omega
      have e : l = m := by
        have := HE.out
        rw [List.take_of_length_le (by have := HN.out; omega), List.take_of_length_le (by have := HM.out; omega)] at this
        exact this
      have HZ0 : Hid (zz = true) := Lib.hid (by rw [HZZ.out, decide_eq_true e])
      clear e hlt
      go_wp2_with fail
      go_ret
      exact ⟨by rw [HZ0.out]; rfl, BL.out⟩
set_option maxRecDepth 100000 in
theorem Recs_unlike (w : World) (oa oa' : Option Addr) (m n cap cap' : Nat) (h : (m = n) = False) (h2 : (m == n) = false) (h3 : ((m : Int) == (n : Int)) = false) (h4 : (m != n) = true) (h5 : ((m : Int) != (n : Int)) = true) :
    Calls Try.prog 10 #[.slice oa m cap, .slice oa' n cap'] w fun e w' => e = .returned (.bool false) ∧ Below w.heap.size w w' := by
  go_enter Try.func10, Try.ntmps10
  go_wp2_with fail
  go_ret
  exact ⟨rfl, Below.refl _ _⟩
set_option maxRecDepth 100000 in
theorem Recs_none (w : World) (oa oa' : Option Addr) (cap cap' : Nat) :
    Calls Try.prog 10 #[.slice oa 0 cap, .slice oa' 0 cap'] w fun e w' => e = .returned (.bool true) ∧ Below w.heap.size w w' := by
  go_enter Try.func10, Try.ntmps10
  go_wp2_with fail
  go_loopw [5] (fun i wr => i = .int .i64 0 ∧ Below w.heap.size w wr) (fun i _ => 0)
  case atStart => exact ⟨rfl, Below.refl _ _⟩
  case round =>
    obtain ⟨rfl, hbl⟩ := hrel
    go_wp2_with fail
    go_ret
    exact ⟨rfl, hbl⟩
theorem Recs_val (w : World) (u v : Value) (l m : List Rec) (hu : LR 7 encR w u l) (hv : LR 7 encR w v m) (hl : l.length ≤ 1000000) :
    Calls Try.prog 10 #[u, v] w fun e w' => e = .returned (.bool (decide (l = m))) ∧ Below w.heap.size w w' := by
  obtain ⟨oa, cap, rfl, _, hx⟩ := hu
  obtain ⟨ob, cap', rfl, _, hy⟩ := hv
  by_cases hlm : l.length = m.length
  · by_cases h0 : l.length = 0
    · have e1 : l = [] := List.length_eq_zero_iff.1 h0
      have e2 : m = [] := List.length_eq_zero_iff.1 (by omega)
      subst e1 e2
      rw [decide_eq_true rfl]
      exact Recs_none w oa ob cap cap'
    · obtain ⟨b, off, rfl, _⟩ := hx 0 (by omega)
      obtain ⟨b', off', rfl, _⟩ := hy 0 (by omega)
      rw [← hlm]
      refine Recs_core w b off b' off' cap cap' l.length l m rfl hlm hl (fun i h => ?_) (fun i h => ?_)
      · obtain ⟨_, _, e, hc⟩ := hx i h
        injection e with e
        injection e with e3 e4
        subst e3 e4
        exact hc
      · obtain ⟨_, _, e, hc⟩ := hy i h
        injection e with e
        injection e with e3 e4
        subst e3 e4
        exact hc
  · rw [decide_eq_false (fun e => hlm (by rw [e]))]
    exact Recs_unlike w oa ob _ _ cap cap' (eq_false hlm) (beq_eq_false_iff_ne.2 hlm) (beq_eq_false_iff_ne.2 (by omega)) (bne_iff_ne.2 hlm) (bne_iff_ne.2 (by omega))
end Go.Proofs.Ytlnhdbbhlcpkbaa.G
