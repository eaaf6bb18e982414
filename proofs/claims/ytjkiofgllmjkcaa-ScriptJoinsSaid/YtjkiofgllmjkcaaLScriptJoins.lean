/- ScriptJoins: whatever the acts and the cut, the law answers true. No condition. -/
import Derived.Test.YtjkiofgllmjkcaaSw
import Derived.Test.YtjkiofgllmjkcaaSh
import Derived.Test.YtjkiofgllmjkcaaGFast
import Derived.BigQuiet
namespace Go.Proofs.Ytjkiofgllmjkcaa.L
open Go.RowKit Go.Proofs.Ytjkiofgllmjkcaa.G Go.Proofs.Ytjkiofgllmjkcaa.WordPlain Go.Proofs.Ytjkiofgllmjkcaa.Loose
set_option linter.unusedVariables false
set_option linter.unusedSimpArgs false

theorem cut_facts (c s : Nat) (hs : s ≤ 3600) : ∃ k : Nat, k ≤ s ∧ wrap64 ((s : Int) + 1) = (s : Int) + 1 ∧ IntKind.i64.wrap ((s : Int) + 1) = (s : Int) + 1 ∧ Int.tmod (c : Int) ((s : Int) + 1) = (k : Int) ∧ (c : Int) % ((s : Int) + 1) = (k : Int) := by
  refine ⟨c % (s + 1), ?_, (wrpS (s + 1) (by omega)).1, (wrpS (s + 1) (by omega)).2, (Int.ofNat_tmod c (s + 1)).symm, rfl⟩
  have := Nat.mod_lt c (show 0 < s + 1 by omega)
  omega
set_option maxRecDepth 100000 in
set_option maxHeartbeats 8000000 in
theorem joins_main (l0 m0 : List Ac) (v v' : Value) (c : Nat) (w : World) (hc : c < 65536) (hv : SA w v l0) (hv' : SA w v' m0) (hk0 : ∀ a ∈ l0, a.Kind) (hk0' : ∀ a ∈ m0, a.Kind) :
    Calls Try.prog 5 #[v, v', .int .u16 (c : Int)] w fun e w' => e = .returned (.bool true) ∧ Below w.heap.size w w' := by
  have hC := Cuts_val l0 6 v w (by omega) hv
  have hC' := fun W (h : Below w.heap.size w W) => Cuts_val m0 6 v' W (by omega) (hv'.below h (Nat.le_refl _))
  have hl6 := cuts_len l0 6
  have hm6 := cuts_len m0 6
  have hkl := cuts_kind l0 6 hk0
  have hkm := cuts_kind m0 6 hk0'
  obtain ⟨l, hl⟩ : ∃ l, l = cuts l0 6 := ⟨_, rfl⟩
  obtain ⟨m, hm⟩ : ∃ l, l = cuts m0 6 := ⟨_, rfl⟩
  rw [← hl] at hC hl6 hkl
  simp only [← hm] at hC' hm6 hkm
  obtain ⟨oa0, cap0, rfl⟩ := hv.form
  obtain ⟨oa0', cap0', rfl⟩ := hv'.form
  have HC := Lib.hid hC
  have HC' := Lib.hid hC'
  have KL := Lib.hid hkl
  have KM := Lib.hid hkm
  have L6 := Lib.hid hl6
  have M6 := Lib.hid hm6
  clear hC hkl hl6 hl hk0 hv hC' hkm hm6 hm hk0' hv'
  go_enter Try.func5, Try.ntmps5
  go_wp2_with fail
  refine (HC.out).mono ?_; rintro e w1 ⟨⟨u, rfl, su⟩, b1⟩
  have SU := Lib.hid su
  have B1 := Lib.hid b1
  obtain ⟨oa, cap, hu, hcap, -⟩ := su.at
  subst hu
  obtain ⟨n, hn⟩ : ∃ n, n = l.length := ⟨_, rfl⟩
  have N6 : n ≤ 6 := by rw [hn]; exact L6.out
  rw [← hn] at SU ⊢
  have HN := Lib.hid hn
  have HCAP := Lib.hid hcap
  clear su b1 hn hcap
  go_wp2_with fail
  refine (HC'.out _ B1.out).mono ?_; rintro e w2 ⟨⟨u', rfl, su'⟩, b2⟩
  have SV := Lib.hid su'
  have SU2 := Lib.hid (SU.out.below b2 (Nat.le_refl _))
  have B2 := Lib.hid (below_step B1.out b2)
  obtain ⟨ob, capb, hu⟩ := su'.form
  subst hu
  have en := Encode_val l _ w2 (by have := L6.out; omega) KL.out SU2.out
  have EN := Lib.hid en
  clear su' b2 B1 SU en
  go_wp2_with fail
  refine (EN.out).mono ?_; rintro e w3 ⟨rfl, b3⟩
  have B3 := Lib.hid (below_step B2.out b3)
  have SU3 := Lib.hid (SU2.out.below b3 (Nat.le_refl _))
  have SV3 := Lib.hid (SV.out.below b3 (Nat.le_refl _))
  have en := Encode_val m _ w3 (by have := M6.out; omega) KM.out SV3.out
  have EM := Lib.hid en
  clear b3 en EN SU2 SV B2
  go_wp2_with fail
  refine (EM.out).mono ?_; rintro e w4 ⟨rfl, b4⟩
  have B4 := Lib.hid (below_step B3.out b4)
  have SU4 := Lib.hid (SU3.out.below b4 (Nat.le_refl _))
  have SV4 := Lib.hid (SV3.out.below b4 (Nat.le_refl _))
  clear b4 EM SU3 SV3 B3
  by_cases hR : allR l
  · by_cases hR' : allR m
    · have HR := Lib.hid hR
      have HRM := Lib.hid hR'
      have e1 : encV l = encB l := if_pos hR
      have e2 : encE l = 0 := if_pos hR
      have e3 : encV m = encB m := if_pos hR'
      have e4 : encE m = 0 := if_pos hR'
      rw [e1, e2, e3, e4]
      have sz1 := encB_small l hR
      have sz2 := encB_small m hR'
      have hlm : allR (l ++ m) := fun a ha => (List.mem_append.1 ha).elim (hR a) (hR' a)
      have klm : ∀ a ∈ l ++ m, a.Kind := fun a ha => (List.mem_append.1 ha).elim (KL.out a) (KM.out a)
      have de := dec_enc (l ++ m) hlm klm
      rw [encB_app] at de
      have elen : (encB l ++ encB m).data.toList.length ≤ 1000000 := by
        have := L6.out
        have := M6.out
        have e : (encB l ++ encB m).data.toList.length = (encB l ++ encB m).size := rfl
        rw [e, ByteArray.size_append]
        omega
      have d1 := Decode_val (encB l ++ encB m).data.toList w4 elen
      have es : (⟨(encB l ++ encB m).data.toList.toArray⟩ : ByteArray) = encB l ++ encB m := rfl
      rw [es, de.1, de.2] at d1
      obtain ⟨z, hz⟩ : ∃ z, z = encB l := ⟨_, rfl⟩
      obtain ⟨y, hy⟩ : ∃ z, z = encB m := ⟨_, rfl⟩
      have hzs : z.size ≤ 3600 := by have := L6.out; rw [hz]; omega
      have q1 : (9223372036854775807 < z.size + y.size) = False := eq_false (by have := M6.out; have := L6.out; rw [hz, hy]; omega)
      rw [← hz, ← hy] at d1 ⊢
      obtain ⟨k, hkz, wz, wz', rz, rz'⟩ := cut_facts c z.size hzs
      have D1 := Lib.hid d1
      have HZ := Lib.hid hz
      have HKZ := Lib.hid hkz
      have HLM := Lib.hid hlm
      have KLM := Lib.hid klm
      clear d1 es de elen e1 e2 e3 e4 hz hy hR hR' sz1 sz2 hlm klm hkz hzs
      go_wp2_with fail
      refine (D1.out).mono ?_; rintro e w5 ⟨⟨vm, rfl, sm⟩, b5⟩
      obtain ⟨om, cm, hvm⟩ := sm.form
      have rm := Refs_val (l ++ m) vm w5 (by have := L6.out; have := M6.out; rw [List.length_append]; omega) sm
      subst hvm
      obtain ⟨nm, hnm⟩ : ∃ x, x = (l ++ m).length := ⟨_, rfl⟩
      rw [← hnm] at rm ⊢
      clear hnm
      have RM := Lib.hid rm
      have SU5 := Lib.hid (SU4.out.below b5 (Nat.le_refl _))
      have SV5 := Lib.hid (SV4.out.below b5 (Nat.le_refl _))
      have B5 := Lib.hid (below_step B4.out b5)
      clear rm b5 sm D1 SU4 SV4 B4
      go_wp2_with fail
      refine (RM.out).mono ?_; rintro e w6 ⟨⟨v6, rfl, s6⟩, b6⟩
      have rl := Refs_own l _ w5 w6 b6 (by have := L6.out; omega) SU5.out
      have RL := Lib.hid rl
      have B6 := Lib.hid b6
      have S6 := Lib.hid s6
      clear rl b6 s6
      go_wp2_with fail
      refine (RL.out).mono ?_; rintro e w7 ⟨g, cg, vks, rfl, r7⟩
      have rl := Refs_own m _ w5 w7 (below_step B6.out r7.bel) (by have := M6.out; omega) SV5.out
      have RL2 := Lib.hid rl
      have R7 := Lib.hid r7
      clear rl r7
      go_wp2_with fail
      refine (RL2.out).mono ?_; rintro e w8 ⟨g', cg', vks', rfl, r8⟩
      obtain ⟨v9, w9, hrun, s9, b9⟩ := RO.app R7.out B6.out (Below.refl _ _) r8 (by have := L6.out; have := M6.out; omega)
      have al := All_val (l ++ m) (l ++ m) v6 v9 w9 (by have := L6.out; have := M6.out; rw [List.length_append]; omega) (fun a ha => (KLM.out a ha).keep) (S6.out.below b9 (Nat.le_refl _)) s9
      rw [decide_eq_true rfl] at al
      have AL := Lib.hid al
      have B9 := Lib.hid (below_step B6.out b9)
      clear al r8 s9 b9
      have HRUN := Lib.hid hrun
      clear hrun
      go_wp2_with (at_builtin; go_loud (refine wpList_append_run rfl _ _ _ rfl _ _ v9 w9 rfl rfl HRUN.out ?_))
      refine (AL.out).mono ?_; rintro e w10 ⟨rfl, b10⟩
      have b510 := below_step B9.out b10
      have SUa := Lib.hid (SU5.out.below b510 (Nat.le_refl _))
      have Ba := Lib.hid (below_step B5.out b510)
      clear b10 b510 RM RL RL2 R7 S6 AL HRUN B5 B6 B9 SU5 SV5
      go_wp2_with fail
      have hkz' : (k : Int) ≤ (z.size : Int) := by have := HKZ.out; omega
      obtain ⟨S, hS0⟩ : ∃ S, S = z.extract 0 k := ⟨_, rfl⟩
      simp only [← hS0]
      have hpre := dec_pre l HR.out KL.out S (z.data.toList.drop k) (by
        rw [← HZ.out, hS0, ByteArray.data_extract, Array.toList_extract, List.extract_eq_take_drop, Nat.sub_zero, List.drop_zero, List.take_append_drop])
      have hSl : S.data.toList.length ≤ 1000000 := by
        have h1 : S.size ≤ 3600 := by rw [hS0, ByteArray.size_extract]; have := HKZ.out; have := encB_small l HR.out; have := L6.out; rw [HZ.out]; omega
        have e : S.data.toList.length = S.size := rfl
        omega
      have d1 := Decode_val S.data.toList w10 hSl
      have es : (⟨S.data.toList.toArray⟩ : ByteArray) = S := rfl
      rw [es] at d1
      clear hS0 hSl es hkz'
      rcases hpre with ⟨h1, h2⟩ | ⟨h1, j, hj, h2⟩
      · rw [h1, h2] at d1
        clear h1 h2
        refine d1.mono ?_; rintro e w11 ⟨⟨v11, rfl, s11⟩, b11⟩
        obtain ⟨o11, p11, hv⟩ := s11.form
        subst hv
        have Bb := Lib.hid (below_step Ba.out b11)
        clear d1 s11 b11
        go_wp2_with fail
        refine (fixed_val _).mono ?_; rintro e w12 ⟨rfl, b12⟩
        go_wp2_with fail
        go_ret
        exact ⟨rfl, below_step Bb.out b12⟩
      · rw [h1, h2] at d1
        clear h1 h2
        refine d1.mono ?_; rintro e w11 ⟨⟨v11, rfl, s11⟩, b11⟩
        obtain ⟨o11, p11, hv⟩ := s11.form
        have hj2 : (l.take j).length = j := by rw [List.length_take]; omega
        rw [hj2] at hv
        subst hv
        have hjn : j ≤ n := by have := HN.out; omega
        have hjni : (j : Int) ≤ (n : Int) := by omega
        have hmin : ∀ W, (Builtin.min_ #[3, 3] 3 #[.int .i64 (j : Int), .int .i64 (n : Int)]).run Try.prog W = .ok (.int .i64 (j : Int)) W := by
          intro W
          rw [run_min2, show min (j : Int) (n : Int) = (j : Int) from by omega]
        have hjc : j ≤ cap := by
          by_cases h0 : l = []
          · subst h0; simp at hj; omega
          · have := HCAP.out h0; have := HN.out; omega
        have hsl := fun W => slice_cutS (P := Try.prog) W 22 29 oa n cap j Try.underlying22 (by kernel_rfl) hjc
        have SUb := Lib.hid ((SUa.out.below b11 (Nat.le_refl _)).first j hj)
        have Sb1 := Lib.hid s11
        have Bb := Lib.hid (below_step Ba.out b11)
        have hlj : (l.take j).length ≤ 1000000 := by have := L6.out; omega
        have HLJ := Lib.hid hlj
        obtain ⟨L, hL⟩ : ∃ L, L = l.take j := ⟨_, rfl⟩
        have hkL : ∀ a ∈ L, a.Kind := fun a ha => KL.out a (by rw [hL] at ha; exact List.mem_of_mem_take ha)
        rw [← hL] at SUb Sb1 HLJ
        have KLL := Lib.hid hkL
        clear d1 s11 b11 hj hj2 hjn hjc SUa Ba hlj hL hkL
        go_wp2_with fail
        refine wp_region_loose_fast (by kernel_rfl) (by kernel_rfl) ?_
        refine wpL_det ?_
        apply Exists.intro
        refine ⟨?_, ?_⟩
        · intro vs w' hC hk
          (try simp [Know.add, depOn, Region.binds] at hk)
          go_simp
          exact ⟨Below.refl _ _, rfl⟩
        refine wpL_det ?_
        apply Exists.intro
        refine ⟨?_, ?_⟩
        · intro vs w' hC hk
          (try simp [Know.add, depOn, Region.binds] at hk)
          go_simp
          exact ⟨Below.refl _ _, rfl⟩
        refine wpL_det ?_
        apply Exists.intro
        refine ⟨?_, ?_⟩
        · intro vs w' hC hk
          (try simp [Know.add, depOn, Region.binds] at hk)
          go_simp
          exact ⟨Below.refl _ _, rfl⟩
        refine wpL_det ?_
        apply Exists.intro
        refine ⟨?_, ?_⟩
        · intro vs w' hC hk
          (try simp [Know.add, depOn, Region.binds] at hk)
          go_simp
          exact ⟨Below.refl _ _, rfl⟩
        refine wpL_det ?_
        apply Exists.intro
        refine ⟨?_, ?_⟩
        · intro vs w' hC hk
          (try simp [Know.add, depOn, Region.binds] at hk)
          go_simp
          exact ⟨Below.refl _ _, rfl⟩
        refine wpL_det ?_
        apply Exists.intro
        refine ⟨?_, ?_⟩
        · intro vs w' hC hk
          (try simp [Know.add, depOn, Region.binds] at hk)
          go_simp
          exact ⟨Below.refl _ _, rfl⟩
        refine wpL_det ?_
        apply Exists.intro
        refine ⟨?_, ?_⟩
        · intro vs w' hC hk
          (try simp [Know.add, depOn, Region.binds] at hk)
          go_simp
          exact ⟨Below.refl _ _, rfl⟩
        refine wpL_step (fun u V => SA V u L) (fun v w w' h hb => h.below hb (Nat.le_refl _)) ?_ ?_
        · intro vs w' hC hk
          (try simp [Know.add, depOn, Region.binds] at hk)
          go_simp
          refine (Refs_val L _ w' HLJ.out (Sb1.out.below hC (Nat.le_refl _))).mono ?_
          rintro e w'' ⟨⟨u, rfl, hs⟩, hb⟩
          exact ⟨u, rfl, hb, hs⟩
        refine wpL_det ?_
        apply Exists.intro
        refine ⟨?_, ?_⟩
        · intro vs w' hC hk
          (try simp [Know.add, depOn, Region.binds] at hk)
          go_simp
          exact ⟨Below.refl _ _, rfl⟩
        refine wpL_det ?_
        apply Exists.intro
        refine ⟨?_, ?_⟩
        · intro vs w' hC hk
          (try simp [Know.add, depOn, Region.binds] at hk)
          go_simp
          exact ⟨Below.refl _ _, rfl⟩
        refine wpL_det ?_
        apply Exists.intro
        refine ⟨?_, ?_⟩
        · intro vs w' hC hk
          (try simp [Know.add, depOn, Region.binds] at hk)
          go_simp
          exact ⟨Below.refl _ _, rfl⟩
        refine wpL_det ?_
        apply Exists.intro
        refine ⟨?_, ?_⟩
        · intro vs w' hC hk
          (try simp [Know.add, depOn, Region.binds] at hk)
          go_simp
          exact ⟨Below.refl _ _, rfl⟩
        refine wpL_det ?_
        apply Exists.intro
        refine ⟨?_, ?_⟩
        · intro vs w' hC hk
          (try simp [Know.add, depOn, Region.binds] at hk)
          go_simp
          exact ⟨Below.refl _ _, rfl⟩
        refine wpL_det ?_
        apply Exists.intro
        refine ⟨?_, ?_⟩
        · intro vs w' hC hk
          (try simp [Know.add, depOn, Region.binds] at hk)
          go_simp
          exact ⟨Below.refl _ _, rfl⟩
        refine wpL_det ?_
        apply Exists.intro
        refine ⟨?_, ?_⟩
        · intro vs w' hC hk
          (try simp [Know.add, depOn, Region.binds] at hk)
          go_simp
          exact ⟨Below.refl _ _, rfl⟩
        refine wpL_step (fun u V => SA V u L) (fun v w w' h hb => h.below hb (Nat.le_refl _)) ?_ ?_
        · intro vs w' hC hk
          (try simp [Know.add, depOn, Region.binds] at hk)
          go_simp
          refine (Refs_val L _ w' HLJ.out (SUb.out.below hC (Nat.le_refl _))).mono ?_
          rintro e w'' ⟨⟨u, rfl, hs⟩, hb⟩
          exact ⟨u, rfl, hb, hs⟩
        refine wpL_det ?_
        apply Exists.intro
        refine ⟨?_, ?_⟩
        · intro vs w' hC hk
          have hA : SA w' (vs 7) L := hk.1.1.1.1.1.1.1.1.2 (by kernel_rfl)
          have hB : SA w' (vs 15) L := hk.2 (by kernel_rfl)
          have hg : vs 5 = .bool true := hk.1.1.1.1.1.1.1.1.1.1.2 (by kernel_rfl)
          have al := All_val L L _ _ w' HLJ.out (fun a ha => (KLL.out a ha).keep) hA hB
          rw [show decide (L = L) = true from decide_eq_true rfl] at al
          clear hk
          go_simp
          refine al.mono ?_
          rintro e w'' ⟨rfl, hb⟩
          first | exact ⟨rfl, hb⟩ | exact ⟨_, rfl, hb, rfl⟩
        refine wpL_det ?_
        apply Exists.intro
        refine ⟨?_, ?_⟩
        · intro vs w' hC hk
          (try simp [Know.add, depOn, Region.binds] at hk)
          go_simp
          exact ⟨Below.refl _ _, rfl⟩
        refine wpL_det ?_
        apply Exists.intro
        refine ⟨?_, ?_⟩
        · intro vs w' hC hk
          (try simp [Know.add, depOn, Region.binds] at hk)
          go_simp
          exact ⟨Below.refl _ _, rfl⟩
        refine wpL_det ?_
        apply Exists.intro
        refine ⟨?_, ?_⟩
        · intro vs w' hC hk
          (try simp [Know.add, depOn, Region.binds] at hk)
          go_simp
          refine (fixed_val _).mono ?_
          rintro e w'' ⟨rfl, hb⟩
          first | exact ⟨rfl, hb⟩ | exact ⟨_, rfl, hb, rfl⟩
        refine wpL_det ?_
        apply Exists.intro
        refine ⟨?_, ?_⟩
        · intro vs w' hC hk
          (try simp [Know.add, depOn, Region.binds] at hk)
          go_simp
          exact ⟨Below.refl _ _, rfl⟩
        refine wpL_det ?_
        apply Exists.intro
        refine ⟨?_, ?_⟩
        · intro vs w' hC hk
          (try simp [Know.add, depOn, Region.binds] at hk)
          go_simp
          exact ⟨Below.refl _ _, rfl⟩
        refine wpL_nil ?_
        intro vs w' hC hk
        have h21 : vs 21 = .bool true := hk.2 (by kernel_rfl)
        clear hk
        go_wp2_with fail
        refine put_ret (s := 103) rfl ?_ (by decide) ?_ h21 ⟨rfl, below_step Bb.out hC⟩
        · simp only [put_sizeF]; rfl
        · simp only [put_defersF]
    · have e3 : encE m = 5 := if_neg hR'
      have e2 : encE l = 0 := if_pos hR
      rw [e2, e3]
      clear e2 e3 hR hR'
      go_wp2_with fail
      refine (fixed_val _).mono ?_; rintro e w5 ⟨rfl, b5⟩
      go_wp2_with fail
      go_ret
      exact ⟨rfl, below_step B4.out b5⟩
  · have e2 : encE l = 5 := if_neg hR
    rw [e2]
    clear e2 hR
    go_wp2_with fail
    refine (fixed_val _).mono ?_; rintro e w5 ⟨rfl, b5⟩
    go_wp2_with fail
    go_ret
    exact ⟨rfl, below_step B4.out b5⟩
theorem ScriptJoins_walk (v0 v1 : Value) (a2 : Int) (w : World) (o0 : Row.Opn Try.prog w 22 v0) (o1 : Row.Opn Try.prog w 22 v1) (w2 : (Lit.int .u16 a2).wf = true) :
    Calls Try.prog 5 #[v0, v1, .int .u16 a2] w fun e w' => e = .returned (.bool true) ∧ Below w.heap.size w w' := by
  obtain ⟨c, rfl, hc⟩ := u16_wf a2 w2
  obtain ⟨l, h1, h2, _⟩ := open_acts o0
  obtain ⟨m, h3, h4, _⟩ := open_acts o1
  exact joins_main l m v0 v1 c w hc h1 h3 h2 h4
end Go.Proofs.Ytjkiofgllmjkcaa.L
