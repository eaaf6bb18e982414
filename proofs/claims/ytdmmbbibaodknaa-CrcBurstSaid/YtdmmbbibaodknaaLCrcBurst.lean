/- CrcBurst: whatever the bytes, the place and the four turns, the law answers true and leaves all that was there. No condition but the reach. -/
import Derived.Test.YtdmmbbibaodknaaGCrc2
import Derived.Test.YtdmmbbibaodknaaGBytes
import Derived.Lib.QuietBelow
import Derived.Deep.CutBlock
import Derived.Deep.DeepCutAuto
namespace Go.Proofs.Ytdmmbbibaodknaa.L
open Go.RowKit Go.Proofs.Ytdmmbbibaodknaa.G Go.Proofs.Ytdmmbbibaodknaa.CrcPlain Go.Proofs.Ytdmmbbibaodknaa.CrcPure
set_option linter.unusedVariables false
set_option linter.unusedSimpArgs false

/-- u is t, but for the places from i on, m of them -/
structure Patch (t u : ByteArray) (i m : Nat) : Prop where
  size : u.size = t.size
  same : ∀ j (h : j < t.size), (j < i ∨ i + m ≤ j) → u[j]'(by rw [size]; exact h) = t[j]
theorem Patch.start (t : ByteArray) (i : Nat) : Patch t t i 0 := ⟨rfl, fun _ _ _ => rfl⟩
theorem Patch.next {t u : ByteArray} {i m : Nat} (h : Patch t u i m) (d : UInt8) (hi : i + m < u.size) : Patch t (u.set (i + m) d hi) i (m + 1) := by
  have hs : (u.set (i + m) d hi).size = u.size := Array.size_set (xs := u.data) (v := d) hi
  refine ⟨hs.trans h.size, fun j hj ho => ?_⟩
  have hg : (u.set (i + m) d hi)[j]'(by rw [hs, h.size]; exact hj) = if i + m = j then d else u[j]'(by rw [h.size]; exact hj) :=
    Array.getElem_set hi (show j < (u.data.set (i + m) d hi).size from Nat.lt_of_lt_of_eq hj (h.size.symm.trans hs.symm))
  rw [hg, if_neg (by omega)]
  exact h.same j hj (by omega)
theorem Patch.law {t u : ByteArray} {i m : Nat} (h : Patch t u i m) (hm : m ≤ 4) (hi : i + m ≤ t.size) (r : B) : crcs r (bl u) = crcs r (bl t) ↔ u = t := by
  constructor
  · intro hc
    have hl : (bl u).length = (bl t).length := by rw [bl_length, bl_length, h.size]
    have hlt : (bl t).length = t.size := bl_length t
    have hget : ∀ j (hj : j < t.size), (j < i ∨ i + m ≤ j) → (bl u)[j]'(by rw [bl_length, h.size]; exact hj) = (bl t)[j]'(by rw [bl_length]; exact hj) := by
      intro j hj ho
      simp only [bl, List.getElem_map]
      exact congrArg UInt8.toBitVec (h.same j hj ho)
    have e1 : (bl u).take i = (bl t).take i := by
      apply List.ext_getElem (by simp [hl])
      intro j h1 h2
      rw [List.getElem_take, List.getElem_take]
      simp at h1
      exact hget j (by omega) (by omega)
    have e2 : (bl u).drop (i + m) = (bl t).drop (i + m) := by
      apply List.ext_getElem (by simp [hl])
      intro j h1 h2
      rw [List.getElem_drop, List.getElem_drop]
      simp at h2
      exact hget (i + m + j) (by omega) (by omega)
    have sp : ∀ l : List (BitVec 8), l = l.take i ++ (l.drop i).take m ++ l.drop (i + m) := by
      intro l
      rw [List.append_assoc, ← List.drop_drop, List.take_append_drop, List.take_append_drop]
    have hb := (congrArg (crcs r) (sp (bl u))).symm.trans (hc.trans (congrArg (crcs r) (sp (bl t))))
    rw [e1, e2] at hb
    have hmid := burst _ ((bl u).drop i |>.take m) ((bl t).drop i |>.take m) _ r (by simp [hl]) (by simp; omega) hb
    have hall : bl u = bl t := by rw [sp (bl u), sp (bl t), e1, e2, hmid]
    apply ByteArray.ext
    apply Array.ext'
    simp only [bl] at hall
    exact (List.map_inj_right (fun a b hab => UInt8.toBitVec_inj.1 hab)).1 hall
  · rintro rfl; rfl

theorem burst_eq {x y : B} (u t : ByteArray) (h : x = y ↔ u = t) : (decide (x = y) == (u.toList == t.toList)) = true := by
  have e : (u.toList == t.toList) = decide (u = t) := by
    rw [Bool.eq_iff_iff, beq_iff_eq, decide_eq_true_eq, ByteArray.toList_eq, ByteArray.toList_eq]
    constructor
    · intro h3
      apply ByteArray.ext
      exact Array.ext' h3
    · rintro rfl; rfl
  rw [e]
  by_cases hx : x = y
  · rw [decide_eq_true hx, decide_eq_true (h.1 hx)]; rfl
  · rw [decide_eq_false hx, decide_eq_false (fun h4 => hx (h.2 h4))]; rfl

set_option maxHeartbeats 4000000 in
set_option maxRecDepth 100000 in
theorem burst_walk (s : ByteArray) (a : Nat) (ha : a < 65536) (x0 x1 x2 x3 : UInt8) (w : World) :
    Calls Try.prog 9 #[.string s, .int .u16 a, .agg #[.int .u8 (x0.toNat : Int), .int .u8 (x1.toNat : Int), .int .u8 (x2.toNat : Int), .int .u8 (x3.toNat : Int)]] w fun e w' => e = .returned (.bool true) ∧ Below w.heap.size w w' := by
  obtain ⟨t, ht, hmin, h1, h2⟩ := cut_any s 300
  have HM := Lib.hid hmin
  clear hmin
  by_cases h : s.size ≤ 300
  all_goals
    go_enter Try.func9, Try.ntmps9
    go_upto_region 2 with (fail)
    first | (rw [h2.out (by omega)]; try rw [if_pos (show (300 : Int) < (s.size : Int) by omega)]) | (rw [h1.out (by omega)]; try rw [if_neg (show ¬ ((300 : Int) < (t.size : Int)) by omega)])
    by_cases h0 : t.size = 0
    · have q1 : ((t.size : Int) == 0) = true := by rw [h0]; rfl
      clear h0
      go_wp2_with fail
      refine (fixed_val _).mono ?_; rintro e w1 ⟨rfl, hb1⟩
      go_wp2_with fail
      go_ret
      exact ⟨rfl, step_ ((Below.refl _ _).alloc (Nat.le_refl _) _) hb1⟩
    · have q1 : ((t.size : Int) == 0) = false := beq_eq_false_iff_ne.2 (by omega)
      obtain ⟨W, c, hconv, hat, hb, hlt, hc⟩ := bytes_made_at (P := Try.prog) (w.alloc (.cells #[.int .u8 (x0.toNat : Int), .int .u8 (x1.toNat : Int), .int .u8 (x2.toNat : Int), .int .u8 (x3.toNat : Int)] 36)) (w.heap.size + 1) (by simp) 9 30 5 t Try.underlying9 Try.underlying30 Try.underlying5
      have hpos : 0 < t.size := by omega
      obtain ⟨i, hi⟩ : ∃ i, i = a % t.size := ⟨_, rfl⟩
      have hit : i < t.size := by rw [hi]; exact Nat.mod_lt _ hpos
      have hia : ((a : Int) % (t.size : Int)) = (i : Int) := by rw [hi]; rfl
      have hxb : W.heap[w.heap.size]? = some (.cells #[.int .u8 (x0.toNat : Int), .int .u8 (x1.toNat : Int), .int .u8 (x2.toNat : Int), .int .u8 (x3.toNat : Int)] 36 (0, 0)) := (hb.block _ (by simp)).trans (heap_alloc_new _ _)
      have hbw : Below w.heap.size w W := ((Below.refl _ _).alloc (Nat.le_refl _) _).trans (hb.mono (by simp))
      have HI := Lib.hid hi
      clear hi h0 hb
      go_wp2_with fail
      clear hconv
      try rw [hia]
      clear hia
      go_loopw [9] (fun v wr => ∃ (k : Nat) (u : ByteArray), k ≤ 4 ∧ i + k ≤ t.size ∧ v = .int .i64 k ∧ Patch t u i k ∧ BytesAt wr (w.heap.size + 1) u ∧ wr.heap[w.heap.size]? = some (.cells #[.int .u8 (x0.toNat : Int), .int .u8 (x1.toNat : Int), .int .u8 (x2.toNat : Int), .int .u8 (x3.toNat : Int)] 36 (0, 0)) ∧ Below w.heap.size w wr ∧ w.heap.size + 1 < wr.heap.size) (fun v _ => 4 - (intOf v).toNat)
      case atStart => exact ⟨0, t, by omega, by omega, rfl, Patch.start t i, hat, hxb, hbw, hlt⟩
      case round =>
        clear hat hxb hbw hlt
        obtain ⟨k, u, hk4, hik, rfl, hpat, hat, hxb, hbw, hlt⟩ := hrel
        have hus := hpat.size
        have HUS := Lib.hid hus
        by_cases hk : k < 4
        · by_cases hin : i + k < t.size
          · obtain ⟨y, hy⟩ : ∃ y : UInt8, wr.cell? ⟨w.heap.size, k, none⟩ = some (.int .u8 (y.toNat : Int)) := by
              rw [cell_of_row _ _ _ _ _ _ hxb]
              match k, hk with
              | 0, _ => exact ⟨x0, rfl⟩
              | 1, _ => exact ⟨x1, rfl⟩
              | 2, _ => exact ⟨x2, rfl⟩
              | 3, _ => exact ⟨x3, rfl⟩
            have hui : i + k < u.size := by omega
            have hcell := hat.cell (i + k) hui
            have hfree := hat.free (i + k) hui
            obtain ⟨d, hd⟩ : ∃ d, d = u[i + k] ^^^ y := ⟨_, rfl⟩
            have hxor : bits .xor .u8 (u[i + k].toNat : Int) (y.toNat : Int) = (d.toNat : Int) := by rw [hd]; exact u8_xor_bv u[i + k] y
            have HX := Lib.hid hxb
            clear hd hus hxb
            go_wp2_with fail
            go_region
            all_goals
              have HX2 : ((wr.setCell ⟨w.heap.size + 1, i + k, none⟩ (.int .u8 (d.toNat : Int))).drew).heap[w.heap.size]? = some (.cells #[.int .u8 (x0.toNat : Int), .int .u8 (x1.toNat : Int), .int .u8 (x2.toNat : Int), .int .u8 (x3.toNat : Int)] 36 (0, 0)) := (Below.heap_setCell wr _ _ _ (by simp)).trans HX.out
              have HL2 : w.heap.size + 1 < ((wr.setCell ⟨w.heap.size + 1, i + k, none⟩ (.int .u8 (d.toNat : Int))).drew).heap.size := by
                have e : ((wr.setCell ⟨w.heap.size + 1, i + k, none⟩ (.int .u8 (d.toNat : Int))).drew).heap.size = wr.heap.size := Array.size_modify
                rw [e]; exact hlt
              have HX3 := Lib.hid HX2
              clear HX2
              have HX2 := HX3
              go_wp2_with fail
              go_roundw
              case rel => first | exact ⟨k + 1, u.set (i + k) d hui, by omega, by omega, by go_num, hpat.next d hui, (hat.set (i + k) d hui).drew, HX2, (hbw.setCell (by simp) _).drew, HL2⟩ | ((repeat apply Exists.intro); exact ⟨⟨k + 1, u.set (i + k) d hui, by omega, by omega, by go_num, hpat.next d hui, (hat.set (i + k) d hui).drew, HX2, (hbw.setCell (by simp) _).drew, HL2⟩, rfl⟩)
              case measure => simp [intOf]; omega
          · clear hus
            go_wp2_with fail
            have hback : ∀ p : Regrown, (convert 30 9 (.slice (some ⟨w.heap.size + 1, 0, none⟩) t.size c)).run Try.prog (Go.Sort.grow (redrawn wr p.d) p.os) = .ok (.string u) (Go.Sort.grow (redrawn wr p.d) p.os) := by
              intro p
              have := bytes_back (P := Try.prog) (hat.below (below_regrown wr p.d p.os) hlt) 30 9 5 c Try.underlying30 Try.underlying5 Try.underlying9
              rw [HUS.out] at this
              exact this
            obtain ⟨y, hy⟩ : ∃ y, y = ~~~(crcs (~~~(0#32)) (bl u)) := ⟨_, rfl⟩
            obtain ⟨z, hz⟩ : ∃ z, z = ~~~(crcs (~~~(0#32)) (bl t)) := ⟨_, rfl⟩
            have hte : ((((y.toNat : Int) == (z.toNat : Int)) == (u.toList == t.toList))) = true := by
              rw [toInt_eq, hy, hz]
              exact burst_eq u t (by rw [flip_eq]; exact hpat.law hk4 hik _)
            have huz : u.size ≤ 300 := by have := HUS.out; omega
            have HY := Lib.hid hy
            have HZ := Lib.hid hz
            clear hy hz
            refine wp_region_quiet_below (by kernel_rfl) (by kernel_rfl) ?_
            repeat (quiet_step (fail))
            quiet_step ((go_at_call 10; exact Calls.regrown_of (Sum_val u _ y (by omega) HY)))
            repeat (quiet_step (fail))
            quiet_step ((go_at_call 10; exact Calls.regrown_of (Sum_val t _ z (by omega) HZ)))
            repeat (quiet_step (fail))
            quiet_step ((go_at_call 16; exact Calls.regrown_of (fixed_val _)))
            repeat (quiet_step (fail))
            refine wpQuiet_nil ?_
            intro _ hw'
            obtain ⟨⟨dq, osq⟩, hw''⟩ := hw'
            subst hw''
            go_wp2_with fail
            go_ret
            exact ⟨rfl, step_ hbw (below_regrown wr dq osq)⟩
        · clear hus
          go_wp2_with fail
          have hback : ∀ p : Regrown, (convert 30 9 (.slice (some ⟨w.heap.size + 1, 0, none⟩) t.size c)).run Try.prog (Go.Sort.grow (redrawn wr p.d) p.os) = .ok (.string u) (Go.Sort.grow (redrawn wr p.d) p.os) := by
            intro p
            have := bytes_back (P := Try.prog) (hat.below (below_regrown wr p.d p.os) hlt) 30 9 5 c Try.underlying30 Try.underlying5 Try.underlying9
            rw [HUS.out] at this
            exact this
          obtain ⟨y, hy⟩ : ∃ y, y = ~~~(crcs (~~~(0#32)) (bl u)) := ⟨_, rfl⟩
          obtain ⟨z, hz⟩ : ∃ z, z = ~~~(crcs (~~~(0#32)) (bl t)) := ⟨_, rfl⟩
          have hte : ((((y.toNat : Int) == (z.toNat : Int)) == (u.toList == t.toList))) = true := by
            rw [toInt_eq, hy, hz]
            exact burst_eq u t (by rw [flip_eq]; exact hpat.law hk4 hik _)
          have huz : u.size ≤ 300 := by have := HUS.out; omega
          have HY := Lib.hid hy
          have HZ := Lib.hid hz
          clear hy hz
          refine wp_region_quiet_below (by kernel_rfl) (by kernel_rfl) ?_
          repeat (quiet_step (fail))
          quiet_step ((go_at_call 10; exact Calls.regrown_of (Sum_val u _ y (by omega) HY)))
          repeat (quiet_step (fail))
          quiet_step ((go_at_call 10; exact Calls.regrown_of (Sum_val t _ z (by omega) HZ)))
          repeat (quiet_step (fail))
          quiet_step ((go_at_call 16; exact Calls.regrown_of (fixed_val _)))
          repeat (quiet_step (fail))
          refine wpQuiet_nil ?_
          intro _ hw'
          obtain ⟨⟨dq, osq⟩, hw''⟩ := hw'
          subst hw''
          go_wp2_with fail
          go_ret
          exact ⟨rfl, step_ hbw (below_regrown wr dq osq)⟩

theorem CrcBurst_walk (a0 : ByteArray) (a1 : Int) (a2 : List Int) (w : World) (w0 : a0.size ≤ 140737488351232) (w1 : (Lit.int .u16 a1).wf = true) (l2 : a2.length = 4) (w2 : ∀ z ∈ a2, (Lit.int .u8 z).wf = true) :
    Calls Try.prog 9 #[.string a0, .int .u16 a1, .agg (a2.map (Value.int .u8)).toArray] w fun e w' => e = .returned (.bool true) ∧ Below w.heap.size w w' := by
  obtain ⟨a, rfl, ha⟩ := u16_wf a1 w1
  match a2, l2, w2 with
  | [p, q, r, t], _, w2 =>
    obtain ⟨x0, rfl⟩ := u8_wf p (w2 p (by simp))
    obtain ⟨x1, rfl⟩ := u8_wf q (w2 q (by simp))
    obtain ⟨x2, rfl⟩ := u8_wf r (w2 r (by simp))
    obtain ⟨x3, rfl⟩ := u8_wf t (w2 t (by simp))
    exact burst_walk a0 a ha x0 x1 x2 x3 w
end Go.Proofs.Ytdmmbbibaodknaa.L
