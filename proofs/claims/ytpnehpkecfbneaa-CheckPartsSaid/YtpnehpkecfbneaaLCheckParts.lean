/- CheckParts: whatever the texts, the law answers true. No condition. -/
import Derived.Test.YtpnehpkecfbneaaHh
namespace Go.Proofs.Ytpnehpkecfbneaa.L
open Go.RowKit Go.Proofs.Ytpnehpkecfbneaa.G
set_option linter.unusedVariables false
set_option linter.unusedSimpArgs false

theorem pmin2 {P : Program} (ats : Array TypeId) (ty : TypeId) (a b : Int) (W : World) :
    (Builtin.min_ ats ty #[.int .i64 a, .int .i64 b]).run P W = .ok (.int .i64 (min a b)) W := by
  have h : ∀ x y : Int, (if y < x then y else x) = min x y := by intro x y; split <;> omega
  simp [Builtin.min_, Builtin.min2, List.foldlM_cons, List.foldlM_nil, h]
theorem idB_iff (s : ByteArray) : idB s = true ↔ (∀ c ∈ s.data.toList, idC c = true) ∧ 1 ≤ s.size ∧ s.size ≤ 16 := by
  unfold idB
  simp only [Bool.and_eq_true, List.all_eq_true, decide_eq_true_eq]
theorem idB_sub (s : ByteArray) (i j : Nat) (h : idB s = true) (hij : i < j) (hj : j ≤ s.size) : idB (s.extract i j) = true := by
  rw [idB_iff] at h ⊢
  obtain ⟨h1, h2, h3⟩ := h
  have hs : (s.extract i j).size = j - i := by rw [ByteArray.size_extract]; omega
  refine ⟨fun c hc => h1 c ?_, by omega, by omega⟩
  have e : (s.extract i j).data.toList = (s.data.toList.drop i).take (j - i) := by
    simp [ByteArray.data_extract, List.extract_eq_take_drop]
  rw [e] at hc
  exact List.mem_of_mem_drop (List.mem_of_mem_take hc)
theorem idB_both (s t u : ByteArray) (hu : u = s ++ ⟨#[45]⟩ ++ t) (hs : idB s = true) (ht : idB t = true) : idB u = decide ((u.size : Int) ≤ 16) := by
  rw [idB_iff] at hs ht
  have hz : u.size = s.size + 1 + t.size := by rw [hu, ByteArray.size_append, ByteArray.size_append]; rfl
  have hall : u.data.toList.all idC = true := by
    rw [List.all_eq_true]
    intro c hc
    rw [hu, ByteArray.data_append, ByteArray.data_append, Array.toList_append, Array.toList_append] at hc
    rcases List.mem_append.1 hc with hc | hc
    · rcases List.mem_append.1 hc with hc | hc
      · exact hs.1 c hc
      · have : c = 45 := by simpa using hc
        subst this; decide
    · exact ht.1 c hc
  unfold idB
  rw [hall, Bool.true_and]
  have h1 : decide (1 ≤ u.size) = true := decide_eq_true (by omega)
  rw [h1, Bool.true_and]
  apply decide_eq_decide.2
  omega

set_option maxRecDepth 100000 in
set_option maxHeartbeats 4000000 in
theorem parts_main (a0 a1 : ByteArray) (p : Nat) (w : World) (w0 : a0.size ≤ 140737488351232) (w1 : a1.size ≤ 140737488351232) (hp : p < 256) :
    Calls Try.prog 4 #[.string a0, .string a1, .int .u8 p] w fun e w' => e = .returned (.bool true) ∧ Below w.heap.size w w' := by
  obtain ⟨k1, hk1⟩ : ∃ k, k = min a0.size 40 := ⟨_, rfl⟩
  obtain ⟨k2, hk2⟩ : ∃ k, k = min a1.size 40 := ⟨_, rfl⟩
  have hmin : ∀ W, (Builtin.min_ #[3, 3] 3 #[.int .i64 (a0.size : Int), .int .i64 40]).run Try.prog W = .ok (.int .i64 (k1 : Int)) W := by
    intro W
    rw [pmin2, show min (a0.size : Int) 40 = (k1 : Int) from by omega]
  have hmin2 : ∀ W, (Builtin.min_ #[3, 3] 3 #[.int .i64 (a1.size : Int), .int .i64 40]).run Try.prog W = .ok (.int .i64 (k2 : Int)) W := by
    intro W
    rw [pmin2, show min (a1.size : Int) 40 = (k2 : Int) from by omega]
  have hks : ¬ (a0.size : Int) < (k1 : Int) := by omega
  have hks2 : ¬ (a1.size : Int) < (k2 : Int) := by omega
  have hsz : (a0.extract 0 k1).size ≤ 40 := by rw [ByteArray.size_extract]; omega
  have htz : (a1.extract 0 k2).size ≤ 40 := by rw [ByteArray.size_extract]; omega
  have z1 : (9223372036854775807 < min k1 a0.size + 1) = False := eq_false (by omega)
  have z2 : (9223372036854775807 < min k1 a0.size + 1 + min k2 a1.size) = False := eq_false (by omega)
  clear hk1 hk2 w0 w1
  go_enter Try.func4, Try.ntmps4
  go_wp2_with fail
  obtain ⟨s, hs⟩ : ∃ s, s = a0.extract 0 k1 := ⟨_, rfl⟩
  obtain ⟨t, ht⟩ : ∃ s, s = a1.extract 0 k2 := ⟨_, rfl⟩
  simp only [← hs, ← ht] at hsz htz ⊢
  clear hs ht hmin hmin2 hks hks2 z1 z2
  obtain ⟨u, hu⟩ : ∃ u, u = s ++ ⟨#[45]⟩ ++ t := ⟨_, rfl⟩
  have huz : u.size = s.size + 1 + t.size := by rw [hu, ByteArray.size_append, ByteArray.size_append]; rfl
  have HU := Lib.hid hu
  simp only [← hu]
  clear hu
  obtain ⟨k, hkk⟩ : ∃ k, k = p % (s.size + 1) := ⟨_, rfl⟩
  have hkl : k ≤ s.size := by have := Nat.mod_lt p (show s.size + 1 > 0 by omega); omega
  have wp : wrap64 (p : Int) = (p : Int) := IntWalk.wrap64_in _ (by omega)
  have wn : wrap64 ((s.size : Int) + 1) = (s.size : Int) + 1 := IntWalk.wrap64_in _ (by omega)
  have rp : (p : Int).tmod ((s.size : Int) + 1) = (k : Int) := by
    rw [hkk, show ((s.size : Int) + 1) = ((s.size + 1 : Nat) : Int) from by omega]
    exact (Int.ofNat_tmod p (s.size + 1)).symm
  have nz : ¬ (s.size : Int) + 1 = 0 := by omega
  have nz2 : ((s.size : Int) + 1 == 0) = false := beq_eq_false_iff_ne.2 nz
  have HV := Lib.hid (fun W => Value_val s W true (Lib.hid (by unfold valB; exact (decide_eq_true (by omega)).symm)))
  have hv2 : valB (s ++ t ++ ⟨#[48, 49, 50, 51, 52, 53, 54, 55, 56, 57, 48, 49, 50, 51, 52, 53, 54, 55, 56, 57, 48, 49, 50, 51]⟩) = decide ((s.size : Int) + (t.size : Int) ≤ 40) := by
    unfold valB
    rw [ByteArray.size_append, ByteArray.size_append]
    apply decide_eq_decide.2
    show s.size + t.size + 24 ≤ 64 ↔ _
    omega
  have HV2 := Lib.hid (fun W => Value_val (s ++ t ++ ⟨#[48, 49, 50, 51, 52, 53, 54, 55, 56, 57, 48, 49, 50, 51, 52, 53, 54, 55, 56, 57, 48, 49, 50, 51]⟩) W _ (Lib.hid hv2.symm))
  have ws : wrap64 ((s.size : Int) + (t.size : Int)) = (s.size : Int) + (t.size : Int) := IntWalk.wrap64_in _ (by omega)
  have z3 : (9223372036854775807 < s.size + t.size) = False := eq_false (by omega)
  have z4 : (9223372036854775807 < s.size + t.size + 24) = False := eq_false (by omega)
  have HKK := Lib.hid hkk
  clear hv2 hkk
  cases hA : idB s with
  | false =>
    have IA := Lib.hid (fun W => ID_val s W false (by omega) (Lib.hid hA.symm))
    clear hA
    refine (IA.out _).mono ?_; rintro e w1 ⟨rfl, rfl⟩
    go_wp2_with fail
    refine (IA.out _).mono ?_; rintro e w1 ⟨rfl, rfl⟩
    go_wp2_with fail
    refine (HV.out _).mono ?_; rintro e w1 ⟨rfl, rfl⟩
    go_wp2_with fail
    refine (HV2.out _).mono ?_; rintro e w1 ⟨rfl, rfl⟩
    go_wp2_with fail
    refine (fixed_val _).mono ?_; rintro e w1 ⟨rfl, hb⟩
    go_wp2_with fail
    go_ret
    exact ⟨rfl, hb⟩
  | true =>
    cases hB : idB t with
    | false =>
      have IA := Lib.hid (fun W => ID_val s W true (by omega) (Lib.hid hA.symm))
      have IB := Lib.hid (fun W => ID_val t W false (by omega) (Lib.hid hB.symm))
      have hs1 : 1 ≤ s.size := ((idB_iff s).1 hA).2.1
      by_cases hk0 : k = 0
      · have f1 : ¬ (0 : Int) < (k : Int) := by omega
        have f2 : (k : Int) < (s.size : Int) := by omega
        have f3 : ¬ (s.size : Int) < (k : Int) := by omega
        have IS := Lib.hid (fun W => ID_val (s.extract k s.size) W true (by rw [ByteArray.size_extract]; omega) (Lib.hid (idB_sub s k s.size hA (by omega) (Nat.le_refl _)).symm))
        clear hA hB hk0
        refine (IA.out _).mono ?_; rintro e w1 ⟨rfl, rfl⟩
        go_wp2_with fail
        refine (IB.out _).mono ?_; rintro e w1 ⟨rfl, rfl⟩
        go_wp2_with fail
        refine (IA.out _).mono ?_; rintro e w1 ⟨rfl, rfl⟩
        go_wp2_with fail
        refine (IS.out _).mono ?_; rintro e w1 ⟨rfl, rfl⟩
        go_wp2_with fail
        refine (HV.out _).mono ?_; rintro e w1 ⟨rfl, rfl⟩
        go_wp2_with fail
        refine (HV2.out _).mono ?_; rintro e w1 ⟨rfl, rfl⟩
        go_wp2_with fail
        refine (fixed_val _).mono ?_; rintro e w1 ⟨rfl, hb⟩
        go_wp2_with fail
        go_ret
        exact ⟨rfl, hb⟩
      · by_cases hks : k < s.size
        · have f1 : (0 : Int) < (k : Int) := by omega
          have f2 : (k : Int) < (s.size : Int) := by omega
          have f3 : ¬ (s.size : Int) < (k : Int) := by omega
          have IP := Lib.hid (fun W => ID_val (s.extract 0 k) W true (by rw [ByteArray.size_extract]; omega) (Lib.hid (idB_sub s 0 k hA (by omega) (by omega)).symm))
          have IS := Lib.hid (fun W => ID_val (s.extract k s.size) W true (by rw [ByteArray.size_extract]; omega) (Lib.hid (idB_sub s k s.size hA (by omega) (Nat.le_refl _)).symm))
          clear hA hB hk0 hks
          refine (IA.out _).mono ?_; rintro e w1 ⟨rfl, rfl⟩
          go_wp2_with fail
          refine (IB.out _).mono ?_; rintro e w1 ⟨rfl, rfl⟩
          go_wp2_with fail
          refine (IA.out _).mono ?_; rintro e w1 ⟨rfl, rfl⟩
          go_wp2_with fail
          refine (IP.out _).mono ?_; rintro e w1 ⟨rfl, rfl⟩
          go_wp2_with fail
          refine (IS.out _).mono ?_; rintro e w1 ⟨rfl, rfl⟩
          go_wp2_with fail
          refine (HV.out _).mono ?_; rintro e w1 ⟨rfl, rfl⟩
          go_wp2_with fail
          refine (HV2.out _).mono ?_; rintro e w1 ⟨rfl, rfl⟩
          go_wp2_with fail
          refine (fixed_val _).mono ?_; rintro e w1 ⟨rfl, hb⟩
          go_wp2_with fail
          go_ret
          exact ⟨rfl, hb⟩
        · have f1 : (0 : Int) < (k : Int) := by omega
          have f2 : ¬ (k : Int) < (s.size : Int) := by omega
          have f3 : ¬ (s.size : Int) < (k : Int) := by omega
          have IP := Lib.hid (fun W => ID_val (s.extract 0 k) W true (by rw [ByteArray.size_extract]; omega) (Lib.hid (idB_sub s 0 k hA (by omega) (by omega)).symm))
          clear hA hB hk0 hks
          refine (IA.out _).mono ?_; rintro e w1 ⟨rfl, rfl⟩
          go_wp2_with fail
          refine (IB.out _).mono ?_; rintro e w1 ⟨rfl, rfl⟩
          go_wp2_with fail
          refine (IA.out _).mono ?_; rintro e w1 ⟨rfl, rfl⟩
          go_wp2_with fail
          refine (IP.out _).mono ?_; rintro e w1 ⟨rfl, rfl⟩
          go_wp2_with fail
          refine (HV.out _).mono ?_; rintro e w1 ⟨rfl, rfl⟩
          go_wp2_with fail
          refine (HV2.out _).mono ?_; rintro e w1 ⟨rfl, rfl⟩
          go_wp2_with fail
          refine (fixed_val _).mono ?_; rintro e w1 ⟨rfl, hb⟩
          go_wp2_with fail
          go_ret
          exact ⟨rfl, hb⟩
    | true =>
      have IA := Lib.hid (fun W => ID_val s W true (by omega) (Lib.hid hA.symm))
      have IB := Lib.hid (fun W => ID_val t W true (by omega) (Lib.hid hB.symm))
      have IU := Lib.hid (fun W => ID_val u W (decide ((u.size : Int) ≤ 16)) (by omega) (Lib.hid (idB_both s t u HU.out hA hB).symm))
      have hs1 : 1 ≤ s.size := ((idB_iff s).1 hA).2.1
      by_cases hk0 : k = 0
      · have f1 : ¬ (0 : Int) < (k : Int) := by omega
        have f2 : (k : Int) < (s.size : Int) := by omega
        have f3 : ¬ (s.size : Int) < (k : Int) := by omega
        have IS := Lib.hid (fun W => ID_val (s.extract k s.size) W true (by rw [ByteArray.size_extract]; omega) (Lib.hid (idB_sub s k s.size hA (by omega) (Nat.le_refl _)).symm))
        clear hA hB hk0
        refine (IA.out _).mono ?_; rintro e w1 ⟨rfl, rfl⟩
        go_wp2_with fail
        refine (IB.out _).mono ?_; rintro e w1 ⟨rfl, rfl⟩
        go_wp2_with fail
        refine (IU.out _).mono ?_; rintro e w1 ⟨rfl, rfl⟩
        go_wp2_with fail
        refine (IA.out _).mono ?_; rintro e w1 ⟨rfl, rfl⟩
        go_wp2_with fail
        refine (IS.out _).mono ?_; rintro e w1 ⟨rfl, rfl⟩
        go_wp2_with fail
        refine (HV.out _).mono ?_; rintro e w1 ⟨rfl, rfl⟩
        go_wp2_with fail
        refine (HV2.out _).mono ?_; rintro e w1 ⟨rfl, rfl⟩
        go_wp2_with fail
        refine (fixed_val _).mono ?_; rintro e w1 ⟨rfl, hb⟩
        go_wp2_with fail
        go_ret
        exact ⟨rfl, hb⟩
      · by_cases hks : k < s.size
        · have f1 : (0 : Int) < (k : Int) := by omega
          have f2 : (k : Int) < (s.size : Int) := by omega
          have f3 : ¬ (s.size : Int) < (k : Int) := by omega
          have IP := Lib.hid (fun W => ID_val (s.extract 0 k) W true (by rw [ByteArray.size_extract]; omega) (Lib.hid (idB_sub s 0 k hA (by omega) (by omega)).symm))
          have IS := Lib.hid (fun W => ID_val (s.extract k s.size) W true (by rw [ByteArray.size_extract]; omega) (Lib.hid (idB_sub s k s.size hA (by omega) (Nat.le_refl _)).symm))
          clear hA hB hk0 hks
          refine (IA.out _).mono ?_; rintro e w1 ⟨rfl, rfl⟩
          go_wp2_with fail
          refine (IB.out _).mono ?_; rintro e w1 ⟨rfl, rfl⟩
          go_wp2_with fail
          refine (IU.out _).mono ?_; rintro e w1 ⟨rfl, rfl⟩
          go_wp2_with fail
          refine (IA.out _).mono ?_; rintro e w1 ⟨rfl, rfl⟩
          go_wp2_with fail
          refine (IP.out _).mono ?_; rintro e w1 ⟨rfl, rfl⟩
          go_wp2_with fail
          refine (IS.out _).mono ?_; rintro e w1 ⟨rfl, rfl⟩
          go_wp2_with fail
          refine (HV.out _).mono ?_; rintro e w1 ⟨rfl, rfl⟩
          go_wp2_with fail
          refine (HV2.out _).mono ?_; rintro e w1 ⟨rfl, rfl⟩
          go_wp2_with fail
          refine (fixed_val _).mono ?_; rintro e w1 ⟨rfl, hb⟩
          go_wp2_with fail
          go_ret
          exact ⟨rfl, hb⟩
        · have f1 : (0 : Int) < (k : Int) := by omega
          have f2 : ¬ (k : Int) < (s.size : Int) := by omega
          have f3 : ¬ (s.size : Int) < (k : Int) := by omega
          have IP := Lib.hid (fun W => ID_val (s.extract 0 k) W true (by rw [ByteArray.size_extract]; omega) (Lib.hid (idB_sub s 0 k hA (by omega) (by omega)).symm))
          clear hA hB hk0 hks
          refine (IA.out _).mono ?_; rintro e w1 ⟨rfl, rfl⟩
          go_wp2_with fail
          refine (IB.out _).mono ?_; rintro e w1 ⟨rfl, rfl⟩
          go_wp2_with fail
          refine (IU.out _).mono ?_; rintro e w1 ⟨rfl, rfl⟩
          go_wp2_with fail
          refine (IA.out _).mono ?_; rintro e w1 ⟨rfl, rfl⟩
          go_wp2_with fail
          refine (IP.out _).mono ?_; rintro e w1 ⟨rfl, rfl⟩
          go_wp2_with fail
          refine (HV.out _).mono ?_; rintro e w1 ⟨rfl, rfl⟩
          go_wp2_with fail
          refine (HV2.out _).mono ?_; rintro e w1 ⟨rfl, rfl⟩
          go_wp2_with fail
          refine (fixed_val _).mono ?_; rintro e w1 ⟨rfl, hb⟩
          go_wp2_with fail
          go_ret
          exact ⟨rfl, hb⟩
theorem CheckParts_walk (a0 a1 : ByteArray) (a2 : Int) (w : World) (w0 : a0.size ≤ 140737488351232) (w1 : a1.size ≤ 140737488351232) (w2 : (Lit.int .u8 a2).wf = true) :
    Calls Try.prog 4 #[.string a0, .string a1, .int .u8 a2] w fun e w' => e = .returned (.bool true) ∧ Below w.heap.size w w' := by
  obtain ⟨p, rfl, hp⟩ := u8_wf' _ w2
  exact parts_main a0 a1 p w w0 w1 hp
end Go.Proofs.Ytpnehpkecfbneaa.L
