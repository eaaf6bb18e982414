/- WordBack: whatever the number and the bytes, the law answers true. No condition. -/
import Derived.Test.YteelpgkpmngnmaaGWord3
import Derived.Test.YteelpgkpmngnmaaGMisc
namespace Go.Proofs.Yteelpgkpmngnmaa.L
open Go.RowKit Go.Proofs.Yteelpgkpmngnmaa.G Go.Proofs.Yteelpgkpmngnmaa.WordPlain
set_option linter.unusedVariables false
set_option linter.unusedSimpArgs false

theorem wget_front (n : Nat) (s : ByteArray) (h : n < 256 ^ 8) : wget (wput n 8 ++ s) = n := by
  unfold wget
  have e : (wput n 8 ++ s).data.toList = wl n 8 ++ s.data.toList := by
    rw [ByteArray.data_append]
    simp [wput]
  rw [e, List.take_append_of_le_length (by rw [wl_length]; omega), List.take_of_length_le (by rw [wl_length]; omega), wgl_wl]
  exact Nat.mod_eq_of_lt h
theorem wput_back (s : ByteArray) (k : Nat) (hk : k = min s.size 8) : wput (wget s) k = s.extract 0 k := by
  unfold wget wput
  have hl : (s.data.toList.take 8).length = k := by rw [List.length_take, hk]; exact Nat.min_comm _ _
  rw [← hl, wl_wgl]
  apply ByteArray.ext
  apply Array.ext'
  rw [ByteArray.data_extract]
  simp only [Array.toList_extract, List.extract_eq_drop_take', List.drop_zero, Nat.sub_zero]
  rw [hl, hk]
  by_cases h : s.size ≤ 8
  · rw [List.take_of_length_le (show s.data.toList.length ≤ 8 from h), List.take_of_length_le (show s.data.toList.length ≤ min s.size 8 by have : s.size = s.data.toList.length := rfl; omega)]
  · rw [show min s.size 8 = 8 by omega]

set_option maxRecDepth 100000 in
set_option maxHeartbeats 4000000 in
theorem back_walk (n : Nat) (s : ByteArray) (w : World) (hn : n < 18446744073709551616) (hs : s.size ≤ 140737488351232) :
    Calls Try.prog 4 #[.int .u64 n, .string s] w fun e w' => e = .returned (.bool true) ∧ Below w.heap.size w w' := by
  obtain ⟨k, hk⟩ : ∃ k : Nat, k = min s.size 8 := ⟨_, rfl⟩
  have hmin : ∀ W, (Builtin.min_ #[3, 3] 3 #[.int .i64 (s.size : Int), .int .i64 8]).run Try.prog W = .ok (.int .i64 (k : Int)) W := by
    intro W
    rw [run_min2, show min (s.size : Int) 8 = (k : Int) from by omega]
  have hks : k ≤ s.size := by omega
  have hk8 : k ≤ 8 := by omega
  obtain ⟨p, hp⟩ : ∃ p, p = wput n 8 := ⟨_, rfl⟩
  have hps : p.size = 8 := by rw [hp, wput_size]
  obtain ⟨g, hg⟩ : ∃ g, g = wget s := ⟨_, rfl⟩
  have hgl : g < 18446744073709551616 := by rw [hg]; exact wget_lt s
  obtain ⟨t, ht⟩ : ∃ t, t = s.extract 0 k := ⟨_, rfl⟩
  have p1 := fun W => Put_val n 8 W p hn (Lib.hid (by rw [hp]; rfl))
  have g1 := fun W => Get_val (p ++ s) W n (Lib.hid (by rw [hp, wget_front n s (by omega)]))
  have g2 := fun W => Get_val s W g (Lib.hid hg)
  have p2 := fun W => Put_val g k W t hgl (Lib.hid (by rw [ht, ← wput_back s k hk, hg, zc_nat k hk8]))
  have P1 := Lib.hid p1
  have P2 := Lib.hid p2
  have G1 := Lib.hid g1
  have G2 := Lib.hid g2
  have HT := Lib.hid ht
  have z1 : (9223372036854775807 < p.size + s.size) = False := eq_false (by omega)
  clear p1 p2 g1 g2 hp hg hps hk ht
  go_enter Try.func4, Try.ntmps4
  go_wp2_with fail
  have ht := HT.out.symm
  refine wp_region_quiet_below (by kernel_rfl) (by kernel_rfl) ?_
  repeat (quiet_step (fail))
  quiet_step ((go_at_call 14; exact Calls.regrown_of (P1.out _)))
  repeat (quiet_step (fail))
  quiet_step ((go_at_call 16; exact Calls.regrown_of (G1.out _)))
  repeat (quiet_step (fail))
  quiet_step ((go_at_call 16; exact Calls.regrown_of (G2.out _)))
  repeat (quiet_step (fail))
  quiet_step ((go_at_call 14; exact Calls.regrown_of (P2.out _)))
  repeat (quiet_step (fail))
  refine wpQuiet_nil ?_
  intro _ hw'
  obtain ⟨⟨dq, osq⟩, hw''⟩ := hw'
  subst hw''
  clear ht
  go_wp2_with fail
  go_loopw [6, 7] (fun rv c wr => ∃ (i r : Nat), i ≤ 8 ∧ c = .int .i64 i ∧ rv = .int .u64 r ∧ (i < 8 → r = 256 ^ i) ∧ Below w.heap.size w wr) (fun _ c _ => 8 - (intOf c).toNat)
  case atStart => exact ⟨0, 1, by omega, rfl, rfl, fun _ => rfl, below_regrown _ dq osq⟩
  case round =>
    obtain ⟨i, r, hi, rfl, rfl, hr, hbel⟩ := hrel
    have HR := Lib.hid hr
    clear hr
    by_cases hi8 : i < 8
    · have hr := HR.out hi8
      obtain ⟨q, hq⟩ : ∃ q, q = wput n i := ⟨_, rfl⟩
      have hqs : q.size = i := by rw [hq, wput_size]
      obtain ⟨m, hm⟩ : ∃ m, m = n % r := ⟨_, rfl⟩
      have hr0 : 0 < r := by rw [hr]; exact Nat.pow_pos (by omega)
      have hrl : r * 256 ≤ 18446744073709551616 := by
        rw [hr, ← Nat.pow_succ]
        exact (Nat.pow_le_pow_right (by omega) (show i + 1 ≤ 8 by omega) : 256 ^ (i + 1) ≤ 256 ^ 8)
      have hmi : IntKind.u64.wrap ((n : Int).tmod (r : Int)) = (m : Int) := by
        rw [show (n : Int).tmod (r : Int) = (m : Int) from by rw [hm]; rfl]
        exact IntWalk.u64_in _ (by have := Nat.mod_lt n hr0; omega)
      have hmi2 : (n : Int).tmod (r : Int) = (m : Int) := by rw [hm]; rfl
      have hrz : ((r : Int) == 0) = false := beq_eq_false_iff_ne.2 (by omega)
      have hz0 : (r = 0) = False := eq_false (by omega)
      have hz1 : ((r : Int) = 0) = False := eq_false (by omega)
      have p3 := fun W => Put_val n i W q hn (Lib.hid (by rw [hq, zc_nat i hi]))
      have g3 := fun W => Get_val q W m (Lib.hid (by rw [hq, wget_wput n i hi, hm, hr]))
      obtain ⟨r2, hr2⟩ : ∃ r2 : Nat, IntKind.u64.wrap ((r : Int) * 256) = (r2 : Int) ∧ (i + 1 < 8 → r2 = 256 ^ (i + 1)) := by
        by_cases h7 : i + 1 < 8
        · refine ⟨256 ^ (i + 1), ?_, fun _ => rfl⟩
          rw [hr, show ((256 ^ i : Nat) : Int) * 256 = ((256 ^ (i + 1) : Nat) : Int) from by rw [Nat.pow_succ]; norm_cast]
          have : 256 ^ (i + 1) ≤ 256 ^ 7 := Nat.pow_le_pow_right (by omega) (by omega)
          exact IntWalk.u64_in _ (by omega)
        · refine ⟨((r * 256) % 18446744073709551616), ?_, fun h => absurd h h7⟩
          rw [IntKind.wrap_u64]; omega
      obtain ⟨hr3, hr4⟩ := hr2
      have P3 := Lib.hid p3
      have G3 := Lib.hid g3
      have R4 := Lib.hid hr4
      clear p3 g3 hr4 hq hm hr
      go_wp2_with fail
      have hqi : (q.size : Int) = (i : Int) := by omega
      refine wp_region_quiet_below (by kernel_rfl) (by kernel_rfl) ?_
      repeat (quiet_step (fail))
      quiet_step ((go_at_call 14; exact Calls.regrown_of (P3.out _)))
      repeat (quiet_step (fail))
      quiet_step ((go_at_call 16; exact Calls.regrown_of (G3.out _)))
      repeat (quiet_step (fail))
      quiet_step ((go_at_call 14; exact Calls.regrown_of (P3.out _)))
      repeat (quiet_step (fail))
      refine wpQuiet_nil ?_
      intro _ hw'
      obtain ⟨⟨dq, osq⟩, hw''⟩ := hw'
      subst hw''
      go_wp2_with fail
      go_roundw
      case rel => exact ⟨i + 1, r2, by omega, by go_num, rfl, R4.out, below_step hbel (below_regrown _ dq osq)⟩
      case measure => simp [intOf]; omega
    · obtain rfl : i = 8 := by omega
      go_wp2_with fail
      refine (fixed_val _).mono ?_; rintro e w3 ⟨rfl, hb3⟩
      go_wp2_with fail
      go_ret
      exact ⟨rfl, below_step hbel hb3⟩

theorem WordBack_walk (a0 : Int) (a1 : ByteArray) (w : World) (w0 : (Lit.int .u64 a0).wf = true) (w1 : a1.size ≤ 140737488351232) :
    Calls Try.prog 4 #[.int .u64 a0, .string a1] w fun e w' => e = .returned (.bool true) ∧ Below w.heap.size w w' := by
  obtain ⟨a, rfl, ha⟩ := u64_wf a0 w0
  exact back_walk a a1 w ha w1
end Go.Proofs.Yteelpgkpmngnmaa.L
