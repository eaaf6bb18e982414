/- Ids and values: the document's answer. -/
import Derived.Test.YtmbidannodelfaaPh
namespace Go.Proofs.Ytmbidannodelfaa.G
open Go.RowKit
set_option linter.unusedVariables false
set_option linter.unusedSimpArgs false

theorem bne45 (m : Nat) (h : m ≠ 45) : ((m : Int) == 45) = false := beq_eq_false_iff_ne.2 (show ¬ (m : Int) = 45 by omega)
set_option maxRecDepth 100000 in
set_option maxHeartbeats 1000000 in
theorem rID_val (s : ByteArray) (w : World) (z : Bool) (hs : s.size ≤ 140737488351232) (hz : Hid (z = idB s)) :
    Calls Try.prog 43 #[.string s] w fun e w' => e = .returned (.bool z) ∧ w = w' := by
  have HS := Lib.hid hs
  clear hs
  obtain ⟨n, hn⟩ : ∃ n, n = s.size := ⟨_, rfl⟩
  have HN := Lib.hid hn
  have hnb : n ≤ 140737488351232 := by have := HS.out; omega
  go_enter Try.func43, Try.ntmps43
  go_wp2_with fail
  clear hn
  go_loop [3] (fun i => ∃ k : Nat, k ≤ n ∧ i = .int .i64 k ∧ (s.data.toList.take k).all idC = true) (fun i => n - (intOf i).toNat)
  case atStart => exact ⟨0, by omega, rfl, by simp⟩
  case round =>
    obtain ⟨k, hk, rfl, hall⟩ := hrel
    have HA := Lib.hid hall
    clear hall
    by_cases hlt : k < n
    · have hks : k < s.size := by have := HN.out; omega
      obtain ⟨c, hc⟩ : ∃ c, c = s[k]'hks := ⟨_, rfl⟩
      obtain ⟨m, hm⟩ : ∃ m, m = c.toNat := ⟨_, rfl⟩
      have ix : ∀ W : World, (Instr.index 9 (.string s) (.int .i64 (k : Int))).run Try.prog W = .ok (.int .u8 (m : Int)) W := fun W => by rw [hm, hc]; exact index_at s k hks W
      have hnext : (s.data.toList.take (k + 1)).all idC = ((s.data.toList.take k).all idC && idC c) := by
        have hl : k < s.data.toList.length := hks
        have e : s.data.toList[k]'hl = c := by rw [hc]; rfl
        rw [List.take_succ_eq_append_getElem hl, List.all_append, e]
        simp
      have hkn : (k : Int) < (s.size : Int) := by omega
      have HNX := Lib.hid hnext
      have hbad : idC c = false → z = false := by
        intro h
        rw [hz.out]
        unfold idB
        have h2 : s.data.toList.all idC = false := by
          rw [← List.take_append_drop (k + 1) s.data.toList, List.all_append, hnext, h]
          simp
        rw [h2]; rfl
      have HB := Lib.hid hbad
      clear hnext hbad
      have hcm : idC c = ((97 ≤ m && m ≤ 122) || (48 ≤ m && m ≤ 57) || m == 45) := by rw [hm]; rfl
      have HCM := Lib.hid hcm
      clear hcm hc hm
      rcases byte_cases m with h | h | h | h | h | h
      · have e := HB.out (by rw [HCM.out]; simp; omega)
        subst e
        have q0 : ¬ (97 : Int) ≤ (m : Int) := by omega
        have q1 : ¬ (48 : Int) ≤ (m : Int) := by omega
        have q9 : ((m : Int) == 45) = false := bne45 m (by omega)
        go_wp2_with fail
        go_ret
        exact ⟨rfl, rfl⟩
      · have q0 : ¬ (97 : Int) ≤ (m : Int) := by omega
        have q1 : ¬ (48 : Int) ≤ (m : Int) := by omega
        have q9 : ((m : Int) == 45) = true := beq_iff_eq.2 (show (m : Int) = 45 by omega)
        have e : idC c = true := by rw [HCM.out]; simp; omega
        have HE := Lib.hid e
        clear e h
        go_wp2_with fail
        go_round
        case rel => exact ⟨k + 1, by omega, by go_num, by rw [HNX.out, HA.out, HE.out]; rfl⟩
        case measure => simp [intOf]; omega
      · have q0 : ¬ (97 : Int) ≤ (m : Int) := by omega
        have q1 : (48 : Int) ≤ (m : Int) := by omega
        have q2 : (m : Int) ≤ 57 := by omega
        have e : idC c = true := by rw [HCM.out]; simp; omega
        have HE := Lib.hid e
        clear e h
        go_wp2_with fail
        go_round
        case rel => exact ⟨k + 1, by omega, by go_num, by rw [HNX.out, HA.out, HE.out]; rfl⟩
        case measure => simp [intOf]; omega
      · have e := HB.out (by rw [HCM.out]; simp; omega)
        subst e
        have q0 : ¬ (97 : Int) ≤ (m : Int) := by omega
        have q1 : (48 : Int) ≤ (m : Int) := by omega
        have q2 : ¬ (m : Int) ≤ 57 := by omega
        have q9 : ((m : Int) == 45) = false := bne45 m (by omega)
        go_wp2_with fail
        go_ret
        exact ⟨rfl, rfl⟩
      · have q0 : (97 : Int) ≤ (m : Int) := by omega
        have q1 : (m : Int) ≤ 122 := by omega
        have e : idC c = true := by rw [HCM.out]; simp; omega
        have HE := Lib.hid e
        clear e h
        go_wp2_with fail
        go_round
        case rel => exact ⟨k + 1, by omega, by go_num, by rw [HNX.out, HA.out, HE.out]; rfl⟩
        case measure => simp [intOf]; omega
      · have e := HB.out (by rw [HCM.out]; simp; omega)
        subst e
        have q0 : (97 : Int) ≤ (m : Int) := by omega
        have q1 : ¬ (m : Int) ≤ 122 := by omega
        have q2 : (48 : Int) ≤ (m : Int) := by omega
        have q3 : ¬ (m : Int) ≤ 57 := by omega
        have q9 : ((m : Int) == 45) = false := bne45 m (by omega)
        go_wp2_with fail
        go_ret
        exact ⟨rfl, rfl⟩
    · obtain rfl : k = n := by omega
      have hz2 : z = (decide (1 ≤ k) && decide (k ≤ 16)) := by
        have hall := HA.out
        rw [List.take_of_length_le (by have := HN.out; show s.size ≤ k; omega)] at hall
        rw [hz.out]
        unfold idB
        rw [hall, ← HN.out]; simp
      have hsz := HN.out
      have hnl : ¬ (k : Int) < (s.size : Int) := by omega
      by_cases h0 : k = 0
      · have e : z = false := by rw [hz2]; simp [h0]
        have q1 : ¬ (1 : Int) ≤ (s.size : Int) := by omega
        subst e
        clear hz2 hsz h0
        go_wp2_with fail
        go_ret
        exact ⟨rfl, rfl⟩
      · have q1 : (1 : Int) ≤ (s.size : Int) := by omega
        by_cases h16 : k ≤ 16
        · have e : z = true := by rw [hz2]; simp; omega
          have q2 : (s.size : Int) ≤ 16 := by omega
          subst e
          clear hz2 hsz h0
          go_wp2_with fail
          go_ret
          exact ⟨rfl, rfl⟩
        · have e : z = false := by rw [hz2]; simp; omega
          have q2 : ¬ (s.size : Int) ≤ 16 := by omega
          subst e
          clear hz2 hsz h0
          go_wp2_with fail
          go_ret
          exact ⟨rfl, rfl⟩
set_option maxRecDepth 100000 in
theorem rValue_val (s : ByteArray) (w : World) (z : Bool) (hz : Hid (z = valB s)) :
    Calls Try.prog 44 #[.string s] w fun e w' => e = .returned (.bool z) ∧ w = w' := by
  have q : decide ((s.size : Int) ≤ 64) = z := by rw [hz.out]; unfold valB; apply decide_eq_decide.2; omega
  go_enter Try.func44, Try.ntmps44
  go_wp2_with fail
  go_ret
  exact ⟨rfl, rfl⟩
end Go.Proofs.Ytmbidannodelfaa.G
