/- CrcParts: whatever the bytes, the cut and the count, the law answers true and leaves all that was there. No condition but the reach. -/
import Derived.Test.YtdmmbbibaodknaaGCrc2
import Derived.Lib.QuietBelow
import Derived.BigQuiet
namespace Go.Proofs.Ytdmmbbibaodknaa.L
open Go.RowKit Go.Proofs.Ytdmmbbibaodknaa.G Go.Proofs.Ytdmmbbibaodknaa.CrcPlain Go.Proofs.Ytdmmbbibaodknaa.CrcPure
set_option linter.unusedVariables false
set_option linter.unusedSimpArgs false

theorem parts_of (t : ByteArray) (k : Nat) (hk : k ≤ t.size) : ~~~(crcs (~~~(0#32)) (bl t)) = ~~~(crcs (~~~(~~~(crcs (~~~(0#32)) (bl (t.extract 0 k))))) (bl (t.extract k t.size))) := by
  have h : bl t = bl (t.extract 0 k) ++ bl (t.extract k t.size) := by
    rw [← bl_append]
    congr 1
    apply ByteArray.ext
    rw [ByteArray.data_append, ByteArray.data_extract, ByteArray.data_extract]
    apply Array.ext'
    have e : t.size = t.data.toList.length := rfl
    have e2 : List.take (t.data.toList.length - k) (List.drop k t.data.toList) = List.drop k t.data.toList := List.take_of_length_le (by rw [List.length_drop]; omega)
    simp only [Array.toList_append, Array.toList_extract, e, List.extract_eq_drop_take', List.drop_zero, Nat.sub_zero]
    rw [List.take_of_length_le (l := t.data.toList) (Nat.le_refl _), List.take_append_drop]
  rw [h, crcs_append, BitVec.not_not]

set_option maxHeartbeats 4000000 in
set_option maxRecDepth 100000 in
theorem parts_walk (s : ByteArray) (cut n : Nat) (hcut : cut < 65536) (hn : n < 256) (w : World) (hs : s.size ≤ 140737488351232) :
    Calls Try.prog 4 #[.string s, .int .u16 cut, .int .u8 n] w fun e w' => e = .returned (.bool true) ∧ Below w.heap.size w w' := by
  obtain ⟨t, ht, hmin, h1, h2⟩ := cut_any s 300
  obtain ⟨k, hk⟩ : ∃ k, k = cut % (t.size + 1) := ⟨_, rfl⟩
  have hkt : k ≤ t.size := by have := Nat.mod_lt cut (show 0 < t.size + 1 by omega); omega
  have hk1 : ((cut : Int) % ((t.size : Int) + 1)) = (k : Int) := by rw [hk]; rfl
  have hk2 : ((cut : Int) % (((min 300 s.size : Nat) : Int) + 1)) = (k : Int) := by rw [← hmin]; exact hk1
  have K1 := Lib.hid hk1
  have K2 := Lib.hid hk2
  obtain ⟨z, hz⟩ : ∃ z, z = zstr n := ⟨_, rfl⟩
  have hzs : z.size ≤ 255 := by rw [hz, zstr_size]; omega
  obtain ⟨p1, hp1⟩ : ∃ p, p = t.extract 0 k := ⟨_, rfl⟩
  obtain ⟨p2, hp2⟩ : ∃ p, p = t.extract k t.size := ⟨_, rfl⟩
  obtain ⟨p3, hp3⟩ : ∃ p, p = t ++ z := ⟨_, rfl⟩
  have hs1 : p1.size ≤ 300 := by rw [hp1, ByteArray.size_extract]; omega
  have hs2 : p2.size ≤ 300 := by rw [hp2, ByteArray.size_extract]; omega
  have hs3 : p3.size ≤ 600 := by rw [hp3, ByteArray.size_append]; omega
  obtain ⟨x, hx⟩ : ∃ x, x = ~~~(crcs (~~~(0#32)) (bl t)) := ⟨_, rfl⟩
  obtain ⟨x1, hx1⟩ : ∃ x, x = ~~~(crcs (~~~(0#32)) (bl p1)) := ⟨_, rfl⟩
  obtain ⟨x3, hx3⟩ : ∃ x, x = ~~~(crcs (~~~(0#32)) (bl p3)) := ⟨_, rfl⟩
  have X2 : Hid (x = ~~~(crcs (~~~x1) (bl p2))) := by
    have := parts_of t k hkt
    rw [hx, hx1, hp1, hp2]; exact this
  have X3 : Hid (x3 = ~~~(crcs (~~~x) (zs (zn n)))) := by
    have e : zn n = n := by unfold zn; omega
    rw [hx3, hx, e, hp3, bl_append, hz, bl_zstr, crcs_append, BitVec.not_not]
    exact rfl
  have X4 : Hid (x = ~~~(crcs (~~~x) (bl ⟨#[]⟩))) := by
    exact (BitVec.not_not).symm
  have HX := Lib.hid hx
  have HX1 := Lib.hid hx1
  have HX3 := Lib.hid hx3
  have HP1 := Lib.hid hp1
  have HP2 := Lib.hid hp2
  have HP3 := Lib.hid hp3
  have HZ := Lib.hid hz
  clear hx hx1 hx3 hp1 hp2 hp3
  clear hk1 hk2 hk hmin hz
  by_cases h : s.size ≤ 300
  all_goals
    go_enter Try.func4, Try.ntmps4
    go_wp2_with fail
    first | rw [h1.out (by omega)] | rw [h2.out (by omega)]
    first | rw [K1.out] | rw [K2.out]
    clear h
    go_loop [8, 9] (fun v i => ∃ (j : Nat) (y : ByteArray), j ≤ n ∧ i = .int .i64 j ∧ v = .string y ∧ y = zstr j) (fun _ i => n - (intOf i).toNat)
    case atStart => exact ⟨0, _, by omega, rfl, rfl, rfl⟩
    case round =>
      obtain ⟨j, y, hj, rfl, rfl, hy⟩ := hrel
      have hts : y.size = j := by rw [hy, zstr_size]
      have htb : y.size ≤ 140737488351232 := by omega
      have HY := Lib.hid hy
      have HTS := Lib.hid hts
      clear hy hts
      by_cases hlt : j < n
      · go_wp2_with fail
        go_round
        case rel => exact ⟨j + 1, _, by omega, by go_num, rfl, by rw [HY.out, zstr_next]⟩
        case measure => simp [intOf]; omega
      · obtain rfl : j = n := by omega
        go_wp2_with fail
        have hyz : y = z := by rw [HY.out, HZ.out]
        subst hyz
        have hcc : (9223372036854775807 < t.size + y.size) = False := eq_false (by omega)
        have hwj : IntKind.i64.wrap (j : Int) = (j : Int) := IntWalk.i64_in _ (by omega)
        refine wp_region_quiet_below (by kernel_rfl) (by kernel_rfl) ?_
        repeat (quiet_step (fail))
        rw [← HP1.out]
        quiet_step ((go_at_call 10; exact Calls.regrown_of (Sum_val p1 _ x1 (by omega) HX1)))
        repeat (quiet_step (fail))
        rw [← HP2.out]
        quiet_step ((go_at_call 12; exact Calls.regrown_of (More_val x1 p2 _ x (by omega) X2)))
        repeat (quiet_step (fail))
        quiet_step ((go_at_call 10; exact Calls.regrown_of (Sum_val t _ x (by omega) HX)))
        repeat (quiet_step (fail))
        quiet_step ((go_at_call 10; exact Calls.regrown_of (Sum_val t _ x (by omega) HX)))
        repeat (quiet_step (fail))
        quiet_step ((go_at_call 14; exact Calls.regrown_of (Zeros_val x _ _ x3 X3)))
        repeat (quiet_step (fail))
        rw [← HP3.out]
        quiet_step ((go_at_call 10; exact Calls.regrown_of (Sum_val p3 _ x3 (by omega) HX3)))
        repeat (quiet_step (fail))
        quiet_step ((go_at_call 10; exact Calls.regrown_of (Sum_val t _ x (by omega) HX)))
        repeat (quiet_step (fail))
        quiet_step ((go_at_call 12; exact Calls.regrown_of (More_val x _ _ x (by decide) X4)))
        repeat (quiet_step (fail))
        quiet_step ((go_at_call 10; exact Calls.regrown_of (Sum_val t _ x (by omega) HX)))
        repeat (quiet_step (fail))
        quiet_step ((go_at_call 16; exact Calls.regrown_of (fixed_val _)))
        repeat (quiet_step (fail))
        refine wpQuiet_nil ?_
        intro _ hw'
        obtain ⟨⟨dq, osq⟩, hw''⟩ := hw'
        subst hw''
        go_wp2_with fail
        go_ret
        exact ⟨rfl, below_regrown w dq osq⟩

theorem CrcParts_walk (a0 : ByteArray) (a1 a2 : Int) (w : World) (w0 : a0.size ≤ 140737488351232) (w1 : (Lit.int .u16 a1).wf = true) (w2 : (Lit.int .u8 a2).wf = true) :
    Calls Try.prog 4 #[.string a0, .int .u16 a1, .int .u8 a2] w fun e w' => e = .returned (.bool true) ∧ Below w.heap.size w w' := by
  have b1 : 0 ≤ a1 ∧ a1 < 65536 := by
    simp [Lit.wf, IntKind.min, IntKind.max, IntKind.bits, IntKind.signed] at w1
    omega
  have b2 : 0 ≤ a2 ∧ a2 < 256 := by
    simp [Lit.wf, IntKind.min, IntKind.max, IntKind.bits, IntKind.signed] at w2
    omega
  obtain ⟨c, rfl⟩ := Int.eq_ofNat_of_zero_le b1.1
  obtain ⟨n, rfl⟩ := Int.eq_ofNat_of_zero_le b2.1
  exact parts_walk a0 c n (by omega) (by omega) w w0
end Go.Proofs.Ytdmmbbibaodknaa.L
