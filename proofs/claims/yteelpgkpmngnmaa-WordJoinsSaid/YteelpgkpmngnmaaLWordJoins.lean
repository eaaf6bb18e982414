/- WordJoins: whatever the numbers, the law answers true. No condition. -/
import Derived.Test.YteelpgkpmngnmaaGWord3
import Derived.Test.YteelpgkpmngnmaaGMisc
namespace Go.Proofs.Yteelpgkpmngnmaa.L
open Go.RowKit Go.Proofs.Yteelpgkpmngnmaa.G Go.Proofs.Yteelpgkpmngnmaa.WordPlain
set_option linter.unusedVariables false
set_option linter.unusedSimpArgs false

theorem wget_two (a b i j : Nat) (h : i + j ≤ 8) : wget (wput a i ++ wput b j) = a % 256 ^ i + 256 ^ i * (b % 256 ^ j) := by
  unfold wget
  have e : (wput a i ++ wput b j).data.toList = wl a i ++ wl b j := by
    rw [ByteArray.data_append]
    simp [wput]
  rw [e, List.take_of_length_le (by simp [wl_length]; omega), wgl_append, wgl_wl, wgl_wl, wl_length]

set_option maxRecDepth 100000 in
set_option maxHeartbeats 4000000 in
theorem joins_walk (a b : Nat) (w : World) (ha : a < 18446744073709551616) (hb : b < 18446744073709551616) :
    Calls Try.prog 8 #[.int .u64 a, .int .u64 b] w fun e w' => e = .returned (.bool true) ∧ Below w.heap.size w w' := by
  obtain ⟨l, hl⟩ : ∃ l, l = a % 4294967296 := ⟨_, rfl⟩
  obtain ⟨h, hh⟩ : ∃ h, h = b % 4294967296 := ⟨_, rfl⟩
  have q1 : ((a : Int) % 4294967296) = (l : Int) := by omega
  have q2 : ((b : Int) % 4294967296) = (h : Int) := by omega
  have r1 : IntKind.u64.wrap ((a : Int).tmod 4294967296) = (l : Int) := by
    rw [show (a : Int).tmod 4294967296 = (l : Int) from by rw [hl]; rfl]
    exact IntWalk.u64_in _ (by omega)
  have r2 : IntKind.u64.wrap ((b : Int).tmod 4294967296) = (h : Int) := by
    rw [show (b : Int).tmod 4294967296 = (h : Int) from by rw [hh]; rfl]
    exact IntWalk.u64_in _ (by omega)
  have hls : l < 4294967296 := by omega
  have hhs : h < 4294967296 := by omega
  obtain ⟨m, hm⟩ : ∃ m, m = h * 4294967296 := ⟨_, rfl⟩
  have q3 : IntKind.u64.wrap ((h : Int) * 4294967296) = (m : Int) := by
    rw [show (h : Int) * 4294967296 = (m : Int) from by omega]
    exact IntWalk.u64_in _ (by omega)
  obtain ⟨n, hn⟩ : ∃ n, n = l + m := ⟨_, rfl⟩
  have q4 : IntKind.u64.wrap ((l : Int) + (m : Int)) = (n : Int) := by
    rw [show (l : Int) + (m : Int) = (n : Int) from by omega]
    exact IntWalk.u64_in _ (by omega)
  obtain ⟨s, hs⟩ : ∃ s, s = wput a 4 := ⟨_, rfl⟩
  obtain ⟨t, ht⟩ : ∃ t, t = wput b 4 := ⟨_, rfl⟩
  have hss : s.size = 4 := by rw [hs, wput_size]
  have hts : t.size = 4 := by rw [ht, wput_size]
  have p1 := fun W => Put_val a 4 W s ha (Lib.hid (by rw [hs]; rfl))
  have p2 := fun W => Put_val b 4 W t hb (Lib.hid (by rw [ht]; rfl))
  have g1 := fun W => Get_val (s ++ t) W n (Lib.hid (by rw [hs, ht, wget_two a b 4 4 (by omega), hn, hm, hl, hh, Nat.mul_comm]))
  have g2 := fun W => Get_val (s ++ ⟨#[0, 0]⟩) W l (Lib.hid (by rw [show (⟨#[0, 0]⟩ : ByteArray) = wput 0 2 from by decide, hs, wget_two a 0 4 2 (by omega), hl]; omega))
  have g3 := fun W => Get_val (⟨#[0, 0, 0, 0]⟩ ++ t) W m (Lib.hid (by rw [show (⟨#[0, 0, 0, 0]⟩ : ByteArray) = wput 0 4 from by decide, ht, wget_two 0 b 4 4 (by omega), hm, hh]; omega))
  have P1 := Lib.hid p1
  have P2 := Lib.hid p2
  have G1 := Lib.hid g1
  have G2 := Lib.hid g2
  have G3 := Lib.hid g3
  have z1 : (9223372036854775807 < s.size + t.size) = False := eq_false (by omega)
  have z2 : (9223372036854775807 < s.size + 2) = False := eq_false (by omega)
  have z3 : (9223372036854775807 < 4 + t.size) = False := eq_false (by omega)
  clear p1 p2 g1 g2 g3 hs ht hl hh hm hn hss hts
  go_enter Try.func8, Try.ntmps8
  go_wp2_with fail
  refine (P1.out _).mono ?_; rintro e wv_b1 ⟨rfl, b1⟩
  go_wp2_with fail
  refine (P2.out _).mono ?_; rintro e wv_b2 ⟨rfl, b2⟩
  go_wp2_with fail
  refine (G1.out _).mono ?_; rintro e wv_b3 ⟨rfl, b3⟩
  go_wp2_with fail
  refine (P1.out _).mono ?_; rintro e wv_b4 ⟨rfl, b4⟩
  go_wp2_with fail
  refine (G2.out _).mono ?_; rintro e wv_b5 ⟨rfl, b5⟩
  go_wp2_with fail
  refine (P2.out _).mono ?_; rintro e wv_b6 ⟨rfl, b6⟩
  go_wp2_with fail
  refine (G3.out _).mono ?_; rintro e wv_b7 ⟨rfl, b7⟩
  go_wp2_with fail
  refine (fixed_val _).mono ?_; rintro e wv_b8 ⟨rfl, b8⟩
  go_wp2_with fail
  go_ret
  exact ⟨rfl, below_step (below_step (below_step (below_step (below_step (below_step (below_step b1 b2) b3) b4) b5) b6) b7) b8⟩

theorem WordJoins_walk (a0 a1 : Int) (w : World) (w0 : (Lit.int .u64 a0).wf = true) (w1 : (Lit.int .u64 a1).wf = true) :
    Calls Try.prog 8 #[.int .u64 a0, .int .u64 a1] w fun e w' => e = .returned (.bool true) ∧ Below w.heap.size w w' := by
  obtain ⟨a, rfl, ha⟩ := u64_wf a0 w0
  obtain ⟨b, rfl, hb⟩ := u64_wf a1 w1
  exact joins_walk a b w ha hb
end Go.Proofs.Yteelpgkpmngnmaa.L
