/- CheckBytes: whatever the text, the law answers true. No condition. -/
import Derived.Test.YtpnehpkecfbneaaHh
namespace Go.Proofs.Ytpnehpkecfbneaa.L
open Go.RowKit Go.Proofs.Ytpnehpkecfbneaa.G
set_option linter.unusedVariables false
set_option linter.unusedSimpArgs false

theorem min2 {P : Program} (ats : Array TypeId) (ty : TypeId) (a b : Int) (W : World) :
    (Builtin.min_ ats ty #[.int .i64 a, .int .i64 b]).run P W = .ok (.int .i64 (min a b)) W := by
  have h : ∀ x y : Int, (if y < x then y else x) = min x y := by intro x y; split <;> omega
  simp [Builtin.min_, Builtin.min2, List.foldlM_cons, List.foldlM_nil, h]
theorem idB_one (s : ByteArray) (k : Nat) (h : k < s.size) : idB (s.extract k (k + 1)) = idC (s[k]'h) := by
  have hs : (s.extract k (k + 1)).size = 1 := by rw [ByteArray.size_extract]; omega
  have hl : (s.extract k (k + 1)).data.toList = [s[k]'h] := by
    have h1 : (s.extract k (k + 1)).data.toList = (s.data.toList.drop k).take 1 := by
      simp [ByteArray.data_extract, List.extract_eq_take_drop]
    rw [h1]
    have h2 : k < s.data.toList.length := h
    rw [List.drop_eq_getElem_cons h2]
    rfl
  unfold idB
  rw [hs, hl]
  simp

set_option maxRecDepth 100000 in
set_option maxHeartbeats 4000000 in
theorem CheckBytes_walk (a0 : ByteArray) (w : World) (w0 : a0.size ≤ 140737488351232) :
    Calls Try.prog 7 #[.string a0] w fun e w' => e = .returned (.bool true) ∧ Below w.heap.size w w' := by
  obtain ⟨k0, hk0⟩ : ∃ k, k = min a0.size 100 := ⟨_, rfl⟩
  have hmin : ∀ W, (Builtin.min_ #[3, 3] 3 #[.int .i64 (a0.size : Int), .int .i64 100]).run Try.prog W = .ok (.int .i64 (k0 : Int)) W := by
    intro W
    rw [min2, show min (a0.size : Int) 100 = (k0 : Int) from by omega]
  have hks : ¬ (a0.size : Int) < (k0 : Int) := by omega
  have hsz : (a0.extract 0 k0).size ≤ 100 := by rw [ByteArray.size_extract]; omega
  clear hk0 w0
  go_enter Try.func7, Try.ntmps7
  go_wp2_with fail
  obtain ⟨s, hs⟩ : ∃ s, s = a0.extract 0 k0 := ⟨_, rfl⟩
  simp only [← hs] at hsz ⊢
  clear hs hmin hks
  obtain ⟨n, hn⟩ : ∃ n, n = s.size := ⟨_, rfl⟩
  have HN := Lib.hid hn
  have hn100 : n ≤ 100 := by omega
  clear hn hsz
  go_loop [3, 4, 5] (fun sv y i => ∃ (k : Nat) (o : ByteArray), k ≤ n ∧ i = .int .i64 k ∧ y = .string o ∧ o.size = k ∧ sv = .bool ((s.data.toList.take k).all idC)) (fun _ _ i => n - (intOf i).toNat)
  case atStart => exact ⟨0, _, by omega, rfl, rfl, rfl, by simp⟩
  case round =>
    obtain ⟨k, o, hk, rfl, rfl, ho, rfl⟩ := hrel
    by_cases hlt : k < n
    · have hks : k < s.size := by have := HN.out; omega
      have hkn : (k : Int) < (s.size : Int) := by omega
      have hl : k < s.data.toList.length := hks
      have hnext : (s.data.toList.take (k + 1)).all idC = ((s.data.toList.take k).all idC && idC (s[k]'hks)) := by
        rw [List.take_succ_eq_append_getElem hl, List.all_append]
        simp
        rfl
      have hone := idB_one s k hks
      have HI := Lib.hid (fun W => ID_val (s.extract k (k + 1)) W (idC (s[k]'hks)) (by rw [ByteArray.size_extract]; omega) (Lib.hid hone.symm))
      have hsl : ∀ W : World, (Instr.slice 9 (.string s) (some (.int .i64 (k : Int))) (some (.int .i64 ((k : Int) + 1))) none).run Try.prog W = .ok (.string (s.extract k (k + 1))) W := by
        intro W
        rw [run_slice_string W _ _ _ _ _ _ Try.underlying9 (by omega) (by omega) (by omega)]
        have h2 : ((k : Int) + 1).toNat = k + 1 := by omega
        rw [h2]; rfl
      have hcc : (9223372036854775807 < o.size + 1) = False := eq_false (by omega)
      have HNX := Lib.hid hnext
      have HO := Lib.hid ho
      obtain ⟨E, hE⟩ : ∃ E, E = (s.data.toList.take k).all idC := ⟨_, rfl⟩
      obtain ⟨c, hc⟩ : ∃ c, c = idC (s[k]'hks) := ⟨_, rfl⟩
      rw [← hE, ← hc] at HNX
      rw [← hE]
      rw [← hc] at HI
      clear hnext hone ho hE hc hl
      cases E with
      | true =>
        go_wp2_with fail
        refine (HI.out _).mono ?_; rintro e w1 ⟨rfl, rfl⟩
        go_wp2_with fail
        go_round
        case rel => exact ⟨k + 1, _, by omega, by go_num, rfl, by rw [ByteArray.size_append, HO.out]; rfl, by rw [HNX.out]; simp⟩
        case measure => simp [intOf]; omega
      | false =>
        go_wp2_with fail
        go_round
        case rel => exact ⟨k + 1, _, by omega, by go_num, rfl, by rw [ByteArray.size_append, HO.out]; rfl, by rw [HNX.out]; simp⟩
        case measure => simp [intOf]; omega
    · obtain rfl : k = n := by omega
      have hn := HN.out
      have hall : (s.data.toList.take k) = s.data.toList := List.take_of_length_le (by show s.size ≤ k; omega)
      have hid : idB s = ((s.data.toList.take k).all idC && (decide (1 ≤ k) && decide (k ≤ 16))) := by rw [hall]; unfold idB; rw [← hn]
      have hv : valB s = decide (k ≤ 64) := by unfold valB; rw [← hn]
      have hv2 : valB o = decide (k ≤ 64) := by unfold valB; rw [ho]
      have HI := Lib.hid (fun W => ID_val s W (idB s) (by omega) (Lib.hid rfl))
      have HV := Lib.hid (fun W => Value_val s W (valB s) (Lib.hid rfl))
      have HV2 := Lib.hid (fun W => Value_val o W (valB o) (Lib.hid rfl))
      rw [hid] at HI
      rw [hv] at HV
      rw [hv2] at HV2
      have hnlt : ¬ (k : Int) < (s.size : Int) := by omega
      clear hid hv hv2 hall ho
      obtain ⟨E, hE⟩ : ∃ E, E = (s.data.toList.take k).all idC := ⟨_, rfl⟩
      rw [← hE] at HI
      rw [← hE]
      clear hE
      cases E with
      | false =>
        by_cases h64 : k ≤ 64
        · have q0 : (s.size : Int) ≤ 64 := by omega
          have r0 : decide ((s.size : Int) ≤ 64) = true := decide_eq_true q0
          have e1 : (false && (decide (1 ≤ k) && decide (k ≤ 16))) = false := by simp; try omega
          have e2 : decide (k ≤ 64) = true := by simp; try omega
          rw [e1] at HI
          rw [e2] at HV HV2
          clear e1 e2
          have HIS := Lib.hid hn
          clear hn
          go_wp2_with fail
          refine (HI.out _).mono ?_; rintro e w1 ⟨rfl, rfl⟩
          go_wp2_with fail
          refine (HV.out _).mono ?_; rintro e w1 ⟨rfl, rfl⟩
          go_wp2_with fail
          refine (HV2.out _).mono ?_; rintro e w1 ⟨rfl, rfl⟩
          go_wp2_with fail
          refine (HV.out _).mono ?_; rintro e w1 ⟨rfl, rfl⟩
          go_wp2_with fail
          refine (fixed_val _).mono ?_; rintro e w1 ⟨rfl, hb⟩
          go_wp2_with fail
          go_ret
          exact ⟨rfl, hb⟩
        · have q0 : ¬ (s.size : Int) ≤ 64 := by omega
          have r0 : decide ((s.size : Int) ≤ 64) = false := decide_eq_false q0
          have e1 : (false && (decide (1 ≤ k) && decide (k ≤ 16))) = false := by simp; try omega
          have e2 : decide (k ≤ 64) = false := by simp; try omega
          rw [e1] at HI
          rw [e2] at HV HV2
          clear e1 e2
          have HIS := Lib.hid hn
          clear hn
          go_wp2_with fail
          refine (HI.out _).mono ?_; rintro e w1 ⟨rfl, rfl⟩
          go_wp2_with fail
          refine (HV.out _).mono ?_; rintro e w1 ⟨rfl, rfl⟩
          go_wp2_with fail
          refine (HV2.out _).mono ?_; rintro e w1 ⟨rfl, rfl⟩
          go_wp2_with fail
          refine (HV.out _).mono ?_; rintro e w1 ⟨rfl, rfl⟩
          go_wp2_with fail
          refine (fixed_val _).mono ?_; rintro e w1 ⟨rfl, hb⟩
          go_wp2_with fail
          go_ret
          exact ⟨rfl, hb⟩
      | true =>
        by_cases h0 : k = 0
        · have q0 : ¬ (1 : Int) ≤ (s.size : Int) := by omega
          have r0 : decide ((1 : Int) ≤ (s.size : Int)) = false := decide_eq_false q0
          have q1 : (s.size : Int) ≤ 64 := by omega
          have r1 : decide ((s.size : Int) ≤ 64) = true := decide_eq_true q1
          have e1 : (true && (decide (1 ≤ k) && decide (k ≤ 16))) = false := by simp; try omega
          have e2 : decide (k ≤ 64) = true := by simp; try omega
          rw [e1] at HI
          rw [e2] at HV HV2
          clear e1 e2
          have HIS := Lib.hid hn
          clear hn
          go_wp2_with fail
          refine (HI.out _).mono ?_; rintro e w1 ⟨rfl, rfl⟩
          go_wp2_with fail
          refine (HV.out _).mono ?_; rintro e w1 ⟨rfl, rfl⟩
          go_wp2_with fail
          refine (HV2.out _).mono ?_; rintro e w1 ⟨rfl, rfl⟩
          go_wp2_with fail
          refine (HV.out _).mono ?_; rintro e w1 ⟨rfl, rfl⟩
          go_wp2_with fail
          refine (fixed_val _).mono ?_; rintro e w1 ⟨rfl, hb⟩
          go_wp2_with fail
          go_ret
          exact ⟨rfl, hb⟩
        · by_cases h16 : k ≤ 16
          · have q0 : (1 : Int) ≤ (s.size : Int) := by omega
            have r0 : decide ((1 : Int) ≤ (s.size : Int)) = true := decide_eq_true q0
            have q1 : (s.size : Int) ≤ 16 := by omega
            have r1 : decide ((s.size : Int) ≤ 16) = true := decide_eq_true q1
            have q2 : (s.size : Int) ≤ 64 := by omega
            have r2 : decide ((s.size : Int) ≤ 64) = true := decide_eq_true q2
            have e1 : (true && (decide (1 ≤ k) && decide (k ≤ 16))) = true := by simp; try omega
            have e2 : decide (k ≤ 64) = true := by simp; try omega
            rw [e1] at HI
            rw [e2] at HV HV2
            clear e1 e2
            have HIS := Lib.hid hn
            clear hn
            go_wp2_with fail
            refine (HI.out _).mono ?_; rintro e w1 ⟨rfl, rfl⟩
            go_wp2_with fail
            refine (HV.out _).mono ?_; rintro e w1 ⟨rfl, rfl⟩
            go_wp2_with fail
            refine (HV2.out _).mono ?_; rintro e w1 ⟨rfl, rfl⟩
            go_wp2_with fail
            refine (HV.out _).mono ?_; rintro e w1 ⟨rfl, rfl⟩
            go_wp2_with fail
            refine (fixed_val _).mono ?_; rintro e w1 ⟨rfl, hb⟩
            go_wp2_with fail
            go_ret
            exact ⟨rfl, hb⟩
          · by_cases h64 : k ≤ 64
            · have q0 : (1 : Int) ≤ (s.size : Int) := by omega
              have r0 : decide ((1 : Int) ≤ (s.size : Int)) = true := decide_eq_true q0
              have q1 : ¬ (s.size : Int) ≤ 16 := by omega
              have r1 : decide ((s.size : Int) ≤ 16) = false := decide_eq_false q1
              have q2 : (s.size : Int) ≤ 64 := by omega
              have r2 : decide ((s.size : Int) ≤ 64) = true := decide_eq_true q2
              have e1 : (true && (decide (1 ≤ k) && decide (k ≤ 16))) = false := by simp; try omega
              have e2 : decide (k ≤ 64) = true := by simp; try omega
              rw [e1] at HI
              rw [e2] at HV HV2
              clear e1 e2
              have HIS := Lib.hid hn
              clear hn
              go_wp2_with fail
              refine (HI.out _).mono ?_; rintro e w1 ⟨rfl, rfl⟩
              go_wp2_with fail
              refine (HV.out _).mono ?_; rintro e w1 ⟨rfl, rfl⟩
              go_wp2_with fail
              refine (HV2.out _).mono ?_; rintro e w1 ⟨rfl, rfl⟩
              go_wp2_with fail
              refine (HV.out _).mono ?_; rintro e w1 ⟨rfl, rfl⟩
              go_wp2_with fail
              refine (fixed_val _).mono ?_; rintro e w1 ⟨rfl, hb⟩
              go_wp2_with fail
              go_ret
              exact ⟨rfl, hb⟩
            · have q0 : (1 : Int) ≤ (s.size : Int) := by omega
              have r0 : decide ((1 : Int) ≤ (s.size : Int)) = true := decide_eq_true q0
              have q1 : ¬ (s.size : Int) ≤ 16 := by omega
              have r1 : decide ((s.size : Int) ≤ 16) = false := decide_eq_false q1
              have q2 : ¬ (s.size : Int) ≤ 64 := by omega
              have r2 : decide ((s.size : Int) ≤ 64) = false := decide_eq_false q2
              have e1 : (true && (decide (1 ≤ k) && decide (k ≤ 16))) = false := by simp; try omega
              have e2 : decide (k ≤ 64) = false := by simp; try omega
              rw [e1] at HI
              rw [e2] at HV HV2
              clear e1 e2
              have HIS := Lib.hid hn
              clear hn
              go_wp2_with fail
              refine (HI.out _).mono ?_; rintro e w1 ⟨rfl, rfl⟩
              go_wp2_with fail
              refine (HV.out _).mono ?_; rintro e w1 ⟨rfl, rfl⟩
              go_wp2_with fail
              refine (HV2.out _).mono ?_; rintro e w1 ⟨rfl, rfl⟩
              go_wp2_with fail
              refine (HV.out _).mono ?_; rintro e w1 ⟨rfl, rfl⟩
              go_wp2_with fail
              refine (fixed_val _).mono ?_; rintro e w1 ⟨rfl, hb⟩
              go_wp2_with fail
              go_ret
              exact ⟨rfl, hb⟩
end Go.Proofs.Ytpnehpkecfbneaa.L
