/- Lists of acts for the reference: Refs; the same lists: All. -/
import Derived.Test.YtjkiofgllmjkcaaSd
import Derived.Test.YtjkiofgllmjkcaaSe2
import Derived.Test.YtjkiofgllmjkcaaGFast
import Derived.BigQuiet
namespace Go.Proofs.Ytjkiofgllmjkcaa.G
open Go.RowKit Go.Proofs.Ytjkiofgllmjkcaa.WordPlain
set_option linter.unusedVariables false
set_option linter.unusedSimpArgs false

theorem SA.of_rows {W : World} {base : Nat} {ty : TypeId} {lv : Value} {acc : List Ac} {vks : List Value} (hown : W.ownsRow base ty 10 lv acc.length (rows acc vks)) (hlen : vks.length = acc.length) (hkeep : ∀ i (h : i < acc.length) (h' : i < vks.length), Sb W vks[i] acc[i].keep) : SA W lv acc := by
  rcases hown.2 with ⟨e, h0⟩ | ⟨b, cap, cur, e, _, hh, hc, _, hs, ht⟩
  · exact Or.inl ⟨List.length_eq_zero_iff.1 h0, none, 0, e⟩
  · by_cases h0 : acc = []
    · subst h0
      exact Or.inl ⟨rfl, _, cap, e⟩
    · refine Or.inr ⟨h0, b, 0, cap, e, hc, fun i hi => ⟨vks[i]'(by rw [hlen]; exact hi), hkeep i hi (by rw [hlen]; exact hi), ?_⟩⟩
      have f : ∀ j, j < 10 → W.cell? ⟨b, 0 + i * 10 + j, none⟩ = (acc[i].row (vks[i]'(by rw [hlen]; exact hi))).toList[j]? := fun j hj => by
        rw [Nat.zero_add, cell_of_row _ _ _ _ _ _ hh, ← rows_at acc vks i j hlen hi hj, ← ht]
        rw [List.getElem?_take_of_lt (by omega)]
        simp
      exact ⟨f 0 (by omega), f 1 (by omega), f 2 (by omega), f 3 (by omega), f 4 (by omega), f 5 (by omega), f 6 (by omega), f 7 (by omega), f 8 (by omega), f 9 (by omega)⟩
theorem alloc_sizeR (w : World) (o : Obj) : (w.alloc o).heap.size = w.heap.size + 1 := by show (w.heap.push o).size = _; rw [Array.size_push]
theorem act2_info : ∃ i z, Try.prog.info? 47 = some i ∧ i.zero = some z ∧ i.size = 10 ∧ i.bytes = 112 ∧ z.cells.size = 10 := by
  have h : (Try.prog.info? 47).map (fun i => (i.zero.map (·.cells.size), i.size, i.bytes)) = some (some 10, 10, 112) := by kernel_rfl
  cases hq : Try.prog.info? 47 with
  | none => rw [hq] at h; cases h
  | some i =>
    rw [hq] at h; simp at h
    obtain ⟨⟨z, hz, hz2⟩, h3, h4⟩ := h
    exact ⟨i, z, rfl, hz, h3, h4, hz2⟩
theorem grown_of_below {w w' : World} (h : Below w.heap.size w w') : w.grownBy w' none := ⟨h.os, h.tape, h.output, h.size, fun i hi _ => h.block i hi⟩

/-- the list that is laid, so far -/
structure RI (w wr : World) (l : List Ac) (q : Nat) (lv : Value) (vks : List Value) : Prop where
  own : wr.ownsRow w.heap.size 47 10 lv q (rows (l.take q) vks)
  len : vks.length = q
  keep : ∀ i (h : i < l.length) (h' : i < vks.length), Sb w vks[i] l[i].keep
  bel : Below w.heap.size w wr
theorem RI.sa {w wr : World} {l : List Ac} {lv : Value} {vks : List Value} (h : RI w wr l l.length lv vks) : SA wr lv l := by
  have ho := h.own
  rw [List.take_length] at ho
  exact SA.of_rows ho h.len (fun i h1 h2 => (h.keep i h1 h2).below h.bel (Nat.le_refl _))

set_option maxRecDepth 100000 in
set_option maxHeartbeats 4000000 in
theorem Refs_some (l : List Ac) (n b off cap : Nat) (w : World) (hn : n = l.length) (hnb : n ≤ 1000000) (hx : ∀ i (h : i < l.length), ∃ vk, Sb w vk l[i].keep ∧ AtC w b (off + i * 10) l[i] vk) :
    Calls Try.prog 12 #[.slice (some ⟨b, off, none⟩) n cap] w fun e w' => (∃ u, e = .returned u ∧ SA w' u l) ∧ Below w.heap.size w w' := by
  have HX := Lib.hid hx
  have HN := Lib.hid hn
  clear hx hn
  have h0 : RI w (w.alloc (.cells #[] 47)) l 0 (.slice (some ⟨w.heap.size, 0, none⟩) 0 0) [] :=
    ⟨⟨by simp [rows], Or.inr ⟨w.heap.size, 0, #[], rfl, Nat.le_refl _, heap_alloc_new _ _, Nat.le_refl _, by simp [maxLen], rfl, by simp [rows]⟩⟩, rfl, (fun i h h' => absurd h' (Nat.not_lt_zero _)), (Below.refl _ _).alloc (Nat.le_refl _) _⟩
  have H0 := Lib.hid h0
  clear h0
  go_enter Try.func12, Try.ntmps12
  go_wp2_with fail
  go_loopw [3, 4] (fun s i wr => ∃ (q : Nat) (vks : List Value) (lv : Value), q ≤ n ∧ i = .int .i64 q ∧ lv = s ∧ RI w wr l q lv vks) (fun _ i _ => n - (intOf i).toNat)
  case atStart => exact ⟨0, [], _, by omega, rfl, rfl, H0.out⟩
  case round =>
    obtain ⟨q, vks, lv, hq, rfl, rfl, hri⟩ := hrel
    have HRI := Lib.hid hri
    clear hri H0
    by_cases hlt : q < n
    · have hql : q < l.length := by have := HN.out; omega
      have hkn : (q : Int) < (n : Int) := by omega
      obtain ⟨vk, sv, cs⟩ := HX.out q hql
      have cs := cs.below HRI.out.bel (Nat.le_refl _)
      have HSV := Lib.hid sv
      have sv2 := sv.below HRI.out.bel (Nat.le_refl _)
      obtain ⟨a, ha⟩ : ∃ a, a = l[q] := ⟨_, rfl⟩
      rw [← ha] at cs sv sv2 HSV
      have HAE := Lib.hid ha
      have RF := Lib.hid (Ref_val a vk wr sv2)
      obtain ⟨oa, cap', rfl⟩ := sv.form
      obtain ⟨c0, c1, c2, c3, c4, c5, c6, c7, c8, c9⟩ := cs
      clear ha sv sv2
      go_wp2_with fail
      refine (RF.out).mono ?_; rintro e w2 ⟨rfl, hb2⟩
      have hnw := heap_alloc_new w2 (.cells (a.row (.slice oa a.keep.length cap')) 47)
      have HNW := Lib.hid hnw
      have HB2 := Lib.hid hb2
      obtain ⟨ii, zz, i1, i2, i3, i4, i5⟩ := act2_info
      have I1 := Lib.hid i1
      have I2 := Lib.hid i2
      have I3 := Lib.hid i3
      have I4 := Lib.hid i4
      have I5 := Lib.hid i5
      have hsz := hb2.size
      have hsz2 := HRI.out.bel.size
      clear c0 c1 c2 c3 c4 c5 c6 c7 c8 c9 hnw hb2 i1 i2 i3 i4 i5
      have hlen : (rows (l.take q) vks).length = q * 10 := HRI.out.own.1
      have HLEN := Lib.hid hlen
      clear hlen
      unfold Ac.row
      go_wp2_with (at_builtin; go_loud (refine wpList_append_lies _ rfl _ _ 36 rfl w.heap.size 47 ii zz 10 112 Try.underlying36 I1.out I2.out I3.out I4.out I5.out (by decide) lv q (rows (l.take q) vks) rfl ?h0 ⟨w2.heap.size, 0, none⟩ 1 1 (a.row (.slice oa a.keep.length cap')).toList rfl rfl ?h1 ?h2 ?h3 ?h4 ?h5 ?h6 _ rfl ?_))
      case h0 => exact (HRI.out.own.kept (grown_of_below HB2.out) (apartS (by simp))).alloc _
      case h1 => exact World.news_of_block HNW.out
      case h2 => simp [Ac.row, Value.oneCell']
      case h3 => decide
      case h4 => simp only [maxLen]; omega
      case h5 => omega
      case h6 => rw [alloc_sizeR]; omega
      intro g cap5 w5 hown hg hw hlt5
      have hbw : Below w.heap.size w w5 := (below_step HRI.out.bel HB2.out).trans (below_grownS ⟨hg.os, hg.tape, hg.output, by have := hg.size; rw [alloc_sizeR] at this; omega, fun k hk hn => (hg.block k (by rw [alloc_sizeR]; omega) hn).trans (heap_alloc_old _ _ hk)⟩ (fun k hk => (own_geS HRI.out.own k hk).1) (by omega))
      have hri2 : RI w w5 l (q + 1) (.slice (some ⟨g, 0, none⟩) (q + 1) cap5) (vks ++ [.slice oa a.keep.length cap']) := by
        have ht : l.take (q + 1) = l.take q ++ [a] := by rw [HAE.out]; exact List.take_succ_eq_append_getElem hql
        have htl : (l.take q).length = q := by rw [List.length_take]; omega
        refine ⟨?_, by rw [List.length_append, HRI.out.len]; rfl, ?_, hbw⟩
        · rw [ht, rows_snoc _ _ _ _ (by rw [htl]; exact HRI.out.len)]
          exact hown
        · intro i h1 h2
          by_cases hi : i < vks.length
          · rw [List.getElem_append_left hi]; exact HRI.out.keep i h1 hi
          · have hiq : i = q := by have := HRI.out.len; rw [List.length_append, HRI.out.len] at h2; simp at h2; omega
            subst hiq
            have e1 : (vks ++ [Value.slice oa a.keep.length cap'])[i] = Value.slice oa a.keep.length cap' := by rw [List.getElem_append_right (by omega)]; simp
            rw [e1, ← HAE.out]
            exact HSV.out
      have HRI2 := Lib.hid hri2
      clear hri2 hbw hown hg hw hlt5
      go_wp2_with fail
      go_roundw
      case rel => exact ⟨q + 1, _, _, by omega, by go_num, rfl, HRI2.out⟩
      case measure => simp [intOf]; omega
    · obtain rfl : q = n := by omega
      have hn2 := HN.out
      have hri := HRI.out
      rw [hn2] at hri
      have hsa := hri.sa
      have hb := hri.bel
      have HSA := Lib.hid hsa
      have HBB := Lib.hid hb
      clear hri hsa hb hn2
      go_wp2_with fail
      go_ret
      exact ⟨⟨_, rfl, HSA.out⟩, HBB.out⟩
set_option maxRecDepth 100000 in
theorem Refs_none (oa : Option Addr) (cap : Nat) (w : World) :
    Calls Try.prog 12 #[.slice oa 0 cap] w fun e w' => (∃ u, e = .returned u ∧ SA w' u []) ∧ Below w.heap.size w w' := by
  go_enter Try.func12, Try.ntmps12
  go_wp2_with fail
  have hb0 := (Below.refl w.heap.size w).alloc (Nat.le_refl _) (.cells #[] 47)
  have HB := Lib.hid hb0
  clear hb0
  go_loopw [3, 4] (fun s i wr => i = .int .i64 0 ∧ s = .slice (some ⟨w.heap.size, 0, none⟩) 0 0 ∧ Below w.heap.size w wr) (fun _ i _ => 0)
  case atStart => exact ⟨rfl, rfl, HB.out⟩
  case round =>
    obtain ⟨rfl, rfl, hbl⟩ := hrel
    go_wp2_with fail
    go_ret
    exact ⟨⟨_, rfl, Or.inl ⟨rfl, _, 0, rfl⟩⟩, hbl⟩
theorem Refs_val (l : List Ac) (v : Value) (w : World) (hl : l.length ≤ 1000000) (h : SA w v l) :
    Calls Try.prog 12 #[v] w fun e w' => (∃ u, e = .returned u ∧ SA w' u l) ∧ Below w.heap.size w w' := by
  rcases h with ⟨rfl, oa, cap, rfl⟩ | ⟨_, b, off, cap, rfl, _, hx⟩
  · exact Refs_none oa cap w
  · exact Refs_some l l.length b off cap w rfl hl hx

set_option maxRecDepth 100000 in
theorem All_unlike (m n : Nat) (oa oa' : Option Addr) (cap cap' : Nat) (w : World) (h : m ≠ n) :
    Calls Try.prog 15 #[.slice oa m cap, .slice oa' n cap'] w fun e w' => e = .returned (.bool false) ∧ Below w.heap.size w w' := by
  have q : ((m : Int) == (n : Int)) = false := beq_eq_false_iff_ne.2 (by omega)
  clear h
  go_enter Try.func15, Try.ntmps15
  go_wp2_with fail
  go_ret
  exact ⟨rfl, Below.refl _ _⟩
set_option maxRecDepth 100000 in
theorem All_none (oa oa' : Option Addr) (cap cap' : Nat) (w : World) :
    Calls Try.prog 15 #[.slice oa 0 cap, .slice oa' 0 cap'] w fun e w' => e = .returned (.bool true) ∧ Below w.heap.size w w' := by
  go_enter Try.func15, Try.ntmps15
  go_wp2_with fail
  go_loopw [5] (fun i wr => i = .int .i64 0 ∧ Below w.heap.size w wr) (fun i _ => 0)
  case atStart => exact ⟨rfl, Below.refl _ _⟩
  case round =>
    obtain ⟨rfl, hbel⟩ := hrel
    go_wp2_with fail
    go_ret
    exact ⟨rfl, hbel⟩
set_option maxRecDepth 100000 in
set_option maxHeartbeats 4000000 in
theorem All_like (l m : List Ac) (n b off cap b' off' cap' : Nat) (w : World) (hl : l.length = n) (hm : m.length = n) (hn : n ≤ 1000000) (hk : ∀ a ∈ l, a.keep.length ≤ 140737488351232)
    (h1 : ∀ i (h : i < l.length), ∃ vk, Sb w vk l[i].keep ∧ AtC w b (off + i * 10) l[i] vk) (h2 : ∀ i (h : i < m.length), ∃ vk, Sb w vk m[i].keep ∧ AtC w b' (off' + i * 10) m[i] vk) (z : Bool) (hz : Hid (z = decide (l = m))) :
    Calls Try.prog 15 #[.slice (some ⟨b, off, none⟩) n cap, .slice (some ⟨b', off', none⟩) n cap'] w fun e w' => e = .returned (.bool z) ∧ Below w.heap.size w w' := by
  have C1 := Lib.hid h1
  have C2 := Lib.hid h2
  have HL := Lib.hid hl
  have HM := Lib.hid hm
  have HK := Lib.hid hk
  clear h1 h2 hl hm hk
  go_enter Try.func15, Try.ntmps15
  go_wp2_with fail
  go_loopw [5] (fun i wr => ∃ k : Nat, k ≤ n ∧ i = .int .i64 k ∧ l.take k = m.take k ∧ Below w.heap.size w wr) (fun i _ => n - (intOf i).toNat)
  case atStart => exact ⟨0, by omega, rfl, by simp, Below.refl _ _⟩
  case round =>
    obtain ⟨k, hk, rfl, he, hbel⟩ := hrel
    have HE := Lib.hid he
    have HB := Lib.hid hbel
    clear he hbel
    by_cases hlt : k < n
    · have k1 : k < l.length := by have := HL.out; omega
      have k2 : k < m.length := by have := HM.out; omega
      have hkn : (k : Int) < (n : Int) := by omega
      obtain ⟨va, sa, ca⟩ := C1.out k k1
      obtain ⟨vb, sb, cb⟩ := C2.out k k2
      have sa := sa.below HB.out (Nat.le_refl _)
      have sb := sb.below HB.out (Nat.le_refl _)
      have ca := ca.below HB.out (Nat.le_refl _)
      have cb := cb.below HB.out (Nat.le_refl _)
      obtain ⟨x, hx⟩ : ∃ x, x = l[k] := ⟨_, rfl⟩
      obtain ⟨y, hy⟩ : ∃ y, y = m[k] := ⟨_, rfl⟩
      rw [← hx] at sa ca
      rw [← hy] at sb cb
      have hkx : x.keep.length ≤ 140737488351232 := HK.out x (by rw [hx]; exact List.getElem_mem k1)
      have SM : ∀ W, Below wr.heap.size wr W → Calls Try.prog 20 #[.agg (x.row va), .agg (y.row vb)] W fun e w' => e = .returned (.bool (decide (x = y))) ∧ Below W.heap.size W w' :=
        fun W h => rSame_val x y va vb W hkx (sa.below h (Nat.le_refl _)) (sb.below h (Nat.le_refl _)) _ (Lib.hid rfl)
      have HX := Lib.hid hx
      have HY := Lib.hid hy
      obtain ⟨oa, kp, rfl⟩ := sa.form
      obtain ⟨oa', kp', rfl⟩ := sb.form
      obtain ⟨a0, a1, a2, a3, a4, a5, a6, a7, a8, a9⟩ := ca
      obtain ⟨b0, b1, b2, b3, b4, b5, b6, b7, b8, b9⟩ := cb
      have A0 := cell_regrown a0
      have B0 := cell_regrown b0
      have A1 := cell_regrown a1
      have B1 := cell_regrown b1
      have A2 := cell_regrown a2
      have B2 := cell_regrown b2
      have A3 := cell_regrown a3
      have B3 := cell_regrown b3
      have A4 := cell_regrown a4
      have B4 := cell_regrown b4
      have A5 := cell_regrown a5
      have B5 := cell_regrown b5
      have A6 := cell_regrown a6
      have B6 := cell_regrown b6
      have A7 := cell_regrown a7
      have B7 := cell_regrown b7
      have A8 := cell_regrown a8
      have B8 := cell_regrown b8
      have A9 := cell_regrown a9
      have B9 := cell_regrown b9
      clear hx hy sa sb hkx a0 a1 a2 a3 a4 a5 a6 a7 a8 a9 b0 b1 b2 b3 b4 b5 b6 b7 b8 b9
      by_cases hxy : x = y
      · rw [decide_eq_true hxy] at SM
        have SMH := Lib.hid SM
        have HXY := Lib.hid hxy
        clear SM hxy
        go_wp2_with fail
        refine Loose.wp_region_quiet_fast (by kernel_rfl) (by kernel_rfl) ?_
        (try simp only [List.append_eq, List.cons_append, List.nil_append])
        repeat (go_big_quiet_step (fail))
        go_big_quiet_step ((go_at_call 20; exact Calls.regrown_of (SMH.out _ (below_regrown _ _ _))))
        repeat (go_big_quiet_step (fail))
        refine wpQuiet_nil ?_
        intro _ hw'
        obtain ⟨⟨dq, osq⟩, hw''⟩ := hw'
        subst hw''
        clear A0 A1 A2 A3 A4 A5 A6 A7 A8 A9 B0 B1 B2 B3 B4 B5 B6 B7 B8 B9
        go_wp2_with fail
        go_roundw
        case rel =>
          refine ⟨k + 1, by omega, by go_num, ?_, below_step HB.out (below_regrown _ _ _)⟩
          rw [List.take_succ_eq_append_getElem k1, List.take_succ_eq_append_getElem k2, HE.out, ← HX.out, ← HY.out, HXY.out]
        case measure => simp [intOf]; omega
      · rw [decide_eq_false hxy] at SM
        have SMH := Lib.hid SM
        have e : z = false := by
          rw [hz.out]
          apply decide_eq_false
          intro h
          subst h
          exact hxy (by rw [HX.out, HY.out])
        subst e
        clear SM hxy
        go_wp2_with fail
        refine Loose.wp_region_quiet_fast (by kernel_rfl) (by kernel_rfl) ?_
        (try simp only [List.append_eq, List.cons_append, List.nil_append])
        repeat (go_big_quiet_step (fail))
        go_big_quiet_step ((go_at_call 20; exact Calls.regrown_of (SMH.out _ (below_regrown _ _ _))))
        repeat (go_big_quiet_step (fail))
        refine wpQuiet_nil ?_
        intro _ hw'
        obtain ⟨⟨dq, osq⟩, hw''⟩ := hw'
        subst hw''
        clear A0 A1 A2 A3 A4 A5 A6 A7 A8 A9 B0 B1 B2 B3 B4 B5 B6 B7 B8 B9
        go_wp2_with fail
        go_ret
        exact ⟨rfl, below_step HB.out (below_regrown _ _ _)⟩
    · obtain rfl : k = n := by omega
      have e : z = true := by
        rw [hz.out]
        apply decide_eq_true
        have := HE.out
        rw [List.take_of_length_le (by have := HL.out; omega), List.take_of_length_le (by have := HM.out; omega)] at this
        exact this
      subst e
      go_wp2_with fail
      go_ret
      exact ⟨rfl, HB.out⟩
theorem All_val (l m : List Ac) (v u : Value) (w : World) (hl : l.length ≤ 1000000) (hk : ∀ a ∈ l, a.keep.length ≤ 140737488351232) (ha : SA w v l) (hb : SA w u m) :
    Calls Try.prog 15 #[v, u] w fun e w' => e = .returned (.bool (decide (l = m))) ∧ Below w.heap.size w w' := by
  by_cases h : l.length = m.length
  · rcases ha with ⟨rfl, oa, cap, rfl⟩ | ⟨hne, b, off, cap, rfl, _, hc1⟩
    · have hm : m = [] := List.length_eq_zero_iff.1 h.symm
      subst hm
      obtain ⟨oa', cap', rfl⟩ := hb.form
      exact All_none oa oa' cap cap' w
    · rcases hb with ⟨rfl, _⟩ | ⟨_, b', off', cap', rfl, _, hc2⟩
      · exact absurd (List.length_eq_zero_iff.1 h) hne
      · rw [← h]
        exact All_like l m l.length b off cap b' off' cap' w rfl h.symm hl hk hc1 hc2 _ (Lib.hid rfl)
  · obtain ⟨oa, cap, rfl⟩ := ha.form
    obtain ⟨oa', cap', rfl⟩ := hb.form
    rw [decide_eq_false (fun h2 : l = m => h (by rw [h2]))]
    exact All_unlike _ _ oa oa' cap cap' w h
end Go.Proofs.Ytjkiofgllmjkcaa.G
