/- ScriptBack: whatever the acts and the bytes, the law answers true. No condition. -/
import Derived.Test.YtjkiofgllmjkcaaSy
import Derived.Test.YtjkiofgllmjkcaaSh
import Derived.Test.YtjkiofgllmjkcaaGFast
import Derived.BigQuiet
namespace Go.Proofs.Ytjkiofgllmjkcaa.L
open Go.RowKit Go.Proofs.Ytjkiofgllmjkcaa.G Go.Proofs.Ytjkiofgllmjkcaa.WordPlain
set_option linter.unusedVariables false
set_option linter.unusedSimpArgs false

set_option maxRecDepth 100000 in
set_option maxHeartbeats 8000000 in
theorem back_main (l0 : List Ac) (v : Value) (s : ByteArray) (w : World) (hv : SA w v l0) (hk0 : ∀ a ∈ l0, a.Kind) (hsz : s.size ≤ 140737488351232) :
    Calls Try.prog 4 #[v, .string s] w fun e w' => e = .returned (.bool true) ∧ Below w.heap.size w w' := by
  obtain ⟨k, hkk⟩ : ∃ k, k = min s.size 400 := ⟨_, rfl⟩
  have hmin : ∀ W, (Builtin.min_ #[3, 3] 3 #[.int .i64 (s.size : Int), .int .i64 400]).run Try.prog W = .ok (.int .i64 (k : Int)) W := by
    intro W
    rw [run_min2, show min (s.size : Int) 400 = (k : Int) from by omega]
  have hks : ¬ (s.size : Int) < (k : Int) := by omega
  have hSk : (s.extract 0 k).size ≤ 400 := by rw [ByteArray.size_extract]; omega
  clear hkk hsz
  have hC := Cuts_val l0 12 v w (by omega) hv
  have hl12 := cuts_len l0 12
  have hkl := cuts_kind l0 12 hk0
  obtain ⟨l, hl⟩ : ∃ l, l = cuts l0 12 := ⟨_, rfl⟩
  rw [← hl] at hC hl12 hkl
  obtain ⟨oa0, cap0, rfl⟩ := hv.form
  have HC := Lib.hid hC
  have KL := Lib.hid hkl
  have L12 := Lib.hid hl12
  have HSK := Lib.hid hSk
  clear hC hkl hl12 hl hk0 hv hSk
  go_enter Try.func4, Try.ntmps4
  go_wp2_with fail
  refine (HC.out).mono ?_; rintro e w1 ⟨⟨u, rfl, su⟩, b1⟩
  have SU := Lib.hid su
  obtain ⟨oa, cap, hu⟩ := su.form
  have en := Encode_val l u w1 (by have := L12.out; omega) KL.out su
  have EN := Lib.hid en
  have B1 := Lib.hid b1
  subst hu
  obtain ⟨n, hn⟩ : ∃ n, n = l.length := ⟨_, rfl⟩
  have N12 : n ≤ 12 := by rw [hn]; exact L12.out
  rw [← hn] at SU EN ⊢
  have HN := Lib.hid hn
  clear en su b1 hn
  go_wp2_with fail
  obtain ⟨S, hS0⟩ : ∃ S, S = s.extract 0 k := ⟨_, rfl⟩
  rw [← hS0] at HSK
  simp only [← hS0]
  clear hS0 hmin hks
  refine (EN.out).mono ?_; rintro e w2 ⟨rfl, b2⟩
  have B2 := Lib.hid (below_step B1.out b2)
  have SU2 := Lib.hid (SU.out.below b2 (Nat.le_refl _))
  have AT := SU2.out.at
  obtain ⟨oa', cap', e1, -, AT⟩ := AT
  obtain ⟨rfl, -, rfl⟩ : oa = oa' ∧ n = l.length ∧ cap = cap' := by injection e1 with a b c; exact ⟨a, b, c⟩
  have HX := Lib.hid AT
  have DS := Lib.hid (fun W => Decode_val S.data.toList W (by have := HSK.out; have e : S.data.toList.length = S.size := rfl; omega))
  clear b2 AT e1 B1 SU EN
  have q0 : (S.toList == S.toList) = true := beq_self_eq_true _
  by_cases hR : allR l
  · have HR := Lib.hid hR
    have e1 : encV l = encB l := if_pos hR
    have e2 : encE l = 0 := if_pos hR
    rw [e1, e2]
    have de := dec_enc l hR KL.out
    have elen : (encB l).data.toList.length ≤ 1000000 := by
      have := encB_small l hR
      have := L12.out
      have e : (encB l).data.toList.length = (encB l).size := rfl
      omega
    have d1 := fun W => Decode_val (encB l).data.toList W elen
    obtain ⟨z, hz⟩ : ∃ z, z = encB l := ⟨_, rfl⟩
    rw [← hz] at de d1 ⊢
    have es : (⟨z.data.toList.toArray⟩ : ByteArray) = z := rfl
    simp only [es, de.1, de.2] at d1
    have D1 := Lib.hid d1
    clear d1 es de elen e1 e2 hz hR
    go_wp2_with fail
    go_loopw [7, 8] (fun m i wr => ∃ q : Nat, q ≤ n ∧ i = .int .i64 q ∧ m = .bool (decide (allR (l.take q))) ∧ Below w2.heap.size w2 wr) (fun _ i _ => n - (intOf i).toNat)
    case atStart => exact ⟨0, by omega, rfl, by rw [decide_eq_true (show allR (l.take 0) from fun a ha => by simp at ha)], Below.refl _ _⟩
    case round =>
      obtain ⟨q, hq, rfl, rfl, hbl⟩ := hrel
      by_cases hlt : q < n
      · have hql : q < l.length := by have := HN.out; omega
        have hkn : (q : Int) < (n : Int) := by omega
        have BL := Lib.hid hbl
        have hsn := allR_snoc l q hql
        by_cases hA : allR (l.take q)
        · obtain ⟨b, off, vk, hoa, sv, cs⟩ := HX.out q hql
          have sv := sv.below BL.out (Nat.le_refl _)
          have cs := cs.below BL.out (Nat.le_refl _)
          have hkk := KL.out l[q] (List.getElem_mem hql)
          have rv := Right_val l[q] vk wr hkk.keep sv
          have hd : decide (allR (l.take (q + 1))) = decide l[q].Right := by simp [hsn, hA]
          rw [decide_eq_true hA]
          obtain ⟨a, ha⟩ : ∃ a, a = l[q] := ⟨_, rfl⟩
          rw [← ha] at cs sv rv hd
          obtain ⟨oa1, cap1, rfl⟩ := sv.form
          obtain ⟨c0, c1, c2, c3, c4, c5, c6, c7, c8, c9⟩ := cs
          obtain ⟨z1, hz1⟩ : ∃ z, z = decide a.Right := ⟨_, rfl⟩
          rw [← hz1] at rv hd
          have RV := Lib.hid rv
          have HD := Lib.hid hd
          subst hoa
          clear ha sv rv hd hz1 hsn hA hkk hbl
          go_wp2_with fail
          refine (RV.out).mono ?_; rintro e w3 ⟨rfl, b3⟩
          clear c0 c1 c2 c3 c4 c5 c6 c7 c8 c9
          go_wp2_with fail
          go_roundw
          case rel => exact ⟨q + 1, by omega, by go_num, by rw [HD.out], below_step BL.out b3⟩
          case measure => simp [intOf]; omega
        · have hd : decide (allR (l.take (q + 1))) = false := by rw [decide_eq_false_iff_not, hsn]; exact fun h => hA h.1
          rw [decide_eq_false hA]
          have HD := Lib.hid hd
          clear hd hsn hA hbl
          go_wp2_with fail
          go_roundw
          case rel => exact ⟨q + 1, by omega, by go_num, by rw [HD.out], BL.out⟩
          case measure => simp [intOf]; omega
      · obtain rfl : q = n := by omega
        have e0 : l.take q = l := List.take_of_length_le (by have := HN.out; omega)
        rw [e0, decide_eq_true HR.out]
        have SU3 := Lib.hid (SU2.out.below hbl (Nat.le_refl _))
        have B3 := Lib.hid (below_step B2.out hbl)
        clear hbl hlt e0
        go_wp2_with fail
        refine (D1.out _).mono ?_; rintro e w4 ⟨⟨vm, rfl, sm⟩, b4⟩
        obtain ⟨om, cm, hvm⟩ := sm.form
        have rm := Refs_val l vm w4 (by have := L12.out; omega) sm
        subst hvm
        have RM := Lib.hid rm
        have SU4 := Lib.hid (SU3.out.below b4 (Nat.le_refl _))
        have B4 := Lib.hid (below_step B3.out b4)
        clear rm b4 sm
        go_wp2_with fail
        refine (RM.out).mono ?_; rintro e w5 ⟨⟨v5, rfl, s5⟩, b5⟩
        have rl := Refs_val l _ w5 (by have := L12.out; omega) (SU4.out.below b5 (Nat.le_refl _))
        have RL := Lib.hid rl
        have B5 := Lib.hid (below_step B4.out b5)
        have S5 := Lib.hid s5
        clear rl b5 s5
        go_wp2_with fail
        refine (RL.out).mono ?_; rintro e w6 ⟨⟨v6, rfl, s6⟩, b6⟩
        have al := All_val l l v5 v6 w6 (by have := L12.out; omega) (fun a ha => (KL.out a ha).keep) (S5.out.below b6 (Nat.le_refl _)) s6
        rw [decide_eq_true rfl] at al
        have AL := Lib.hid al
        have B6 := Lib.hid (below_step B5.out b6)
        clear al b6 s6
        go_wp2_with fail
        refine (AL.out).mono ?_; rintro e w7 ⟨rfl, b7⟩
        have B7 := Lib.hid (below_step B6.out b7)
        clear b7
        go_wp2_with fail
        have B3 := B7
        clear RM RL AL B4 B5 B6 B7 SU4 S5 SU3 D1
        refine (DS.out _).mono ?_; rintro e w8 ⟨⟨v8, rfl, s8⟩, b8⟩
        have es : (⟨S.data.toList.toArray⟩ : ByteArray) = S := rfl
        rw [es] at s8 ⊢
        clear es
        have B8 := Lib.hid (below_step B3.out b8)
        clear b8
        rcases decX_cases S with hX | ⟨hA, hX⟩
        · obtain ⟨g1, g2, g3⟩ := enc_dec S hX (fun f L x h => by rcases all_err f L x h with rfl | rfl <;> decide)
          have g4 := dec_len S hX 400 HSK.out
          have en := Encode_val (decA S) v8 w8 (by omega) g3 s8
          rw [show encV (decA S) = S from (if_pos g2).trans g1, show encE (decA S) = 0 from if_pos g2] at en
          have EN := Lib.hid en
          obtain ⟨o8, p8, hv8⟩ := s8.form
          subst hv8
          rw [hX]
          clear g1 g2 g3 g4 en s8 hX
          go_wp2_with fail
          refine (EN.out).mono ?_; rintro e w9 ⟨rfl, b9⟩
          have B9 := Lib.hid (below_step B8.out b9)
          clear b9
          go_wp2_with fail
          refine (fixed_val _).mono ?_; rintro e w10 ⟨rfl, b10⟩
          go_wp2_with fail
          go_ret
          exact ⟨rfl, below_step B9.out b10⟩
        · rw [hA] at s8
          obtain ⟨o8, p8, hv8⟩ := s8.form
          subst hv8
          clear s8 hA
          rcases hX with hX | hX
          all_goals
            rw [hX]
            clear hX
            go_wp2_with fail
            refine (fixed_val _).mono ?_; rintro e w10 ⟨rfl, b10⟩
            go_wp2_with fail
            go_ret
            exact ⟨rfl, below_step B8.out b10⟩
  · have HR := Lib.hid hR
    have e1 : encV l = ⟨#[]⟩ := if_neg hR
    have e2 : encE l = 5 := if_neg hR
    rw [e1, e2]
    clear e1 e2 hR
    go_wp2_with fail
    go_loopw [7, 8] (fun m i wr => ∃ q : Nat, q ≤ n ∧ i = .int .i64 q ∧ m = .bool (decide (allR (l.take q))) ∧ Below w2.heap.size w2 wr) (fun _ i _ => n - (intOf i).toNat)
    case atStart => exact ⟨0, by omega, rfl, by rw [decide_eq_true (show allR (l.take 0) from fun a ha => by simp at ha)], Below.refl _ _⟩
    case round =>
      obtain ⟨q, hq, rfl, rfl, hbl⟩ := hrel
      by_cases hlt : q < n
      · have hql : q < l.length := by have := HN.out; omega
        have hkn : (q : Int) < (n : Int) := by omega
        have BL := Lib.hid hbl
        have hsn := allR_snoc l q hql
        by_cases hA : allR (l.take q)
        · obtain ⟨b, off, vk, hoa, sv, cs⟩ := HX.out q hql
          have sv := sv.below BL.out (Nat.le_refl _)
          have cs := cs.below BL.out (Nat.le_refl _)
          have hkk := KL.out l[q] (List.getElem_mem hql)
          have rv := Right_val l[q] vk wr hkk.keep sv
          have hd : decide (allR (l.take (q + 1))) = decide l[q].Right := by simp [hsn, hA]
          rw [decide_eq_true hA]
          obtain ⟨a, ha⟩ : ∃ a, a = l[q] := ⟨_, rfl⟩
          rw [← ha] at cs sv rv hd
          obtain ⟨oa1, cap1, rfl⟩ := sv.form
          obtain ⟨c0, c1, c2, c3, c4, c5, c6, c7, c8, c9⟩ := cs
          obtain ⟨z1, hz1⟩ : ∃ z, z = decide a.Right := ⟨_, rfl⟩
          rw [← hz1] at rv hd
          have RV := Lib.hid rv
          have HD := Lib.hid hd
          subst hoa
          clear ha sv rv hd hz1 hsn hA hkk hbl
          go_wp2_with fail
          refine (RV.out).mono ?_; rintro e w3 ⟨rfl, b3⟩
          clear c0 c1 c2 c3 c4 c5 c6 c7 c8 c9
          go_wp2_with fail
          go_roundw
          case rel => exact ⟨q + 1, by omega, by go_num, by rw [HD.out], below_step BL.out b3⟩
          case measure => simp [intOf]; omega
        · have hd : decide (allR (l.take (q + 1))) = false := by rw [decide_eq_false_iff_not, hsn]; exact fun h => hA h.1
          rw [decide_eq_false hA]
          have HD := Lib.hid hd
          clear hd hsn hA hbl
          go_wp2_with fail
          go_roundw
          case rel => exact ⟨q + 1, by omega, by go_num, by rw [HD.out], BL.out⟩
          case measure => simp [intOf]; omega
      · obtain rfl : q = n := by omega
        have e0 : l.take q = l := List.take_of_length_le (by have := HN.out; omega)
        rw [e0, decide_eq_false HR.out]
        have B3 := Lib.hid (below_step B2.out hbl)
        clear hbl hlt e0
        go_wp2_with fail
        refine (DS.out _).mono ?_; rintro e w8 ⟨⟨v8, rfl, s8⟩, b8⟩
        have es : (⟨S.data.toList.toArray⟩ : ByteArray) = S := rfl
        rw [es] at s8 ⊢
        clear es
        have B8 := Lib.hid (below_step B3.out b8)
        clear b8
        rcases decX_cases S with hX | ⟨hA, hX⟩
        · obtain ⟨g1, g2, g3⟩ := enc_dec S hX (fun f L x h => by rcases all_err f L x h with rfl | rfl <;> decide)
          have g4 := dec_len S hX 400 HSK.out
          have en := Encode_val (decA S) v8 w8 (by omega) g3 s8
          rw [show encV (decA S) = S from (if_pos g2).trans g1, show encE (decA S) = 0 from if_pos g2] at en
          have EN := Lib.hid en
          obtain ⟨o8, p8, hv8⟩ := s8.form
          subst hv8
          rw [hX]
          clear g1 g2 g3 g4 en s8 hX
          go_wp2_with fail
          refine (EN.out).mono ?_; rintro e w9 ⟨rfl, b9⟩
          have B9 := Lib.hid (below_step B8.out b9)
          clear b9
          go_wp2_with fail
          refine (fixed_val _).mono ?_; rintro e w10 ⟨rfl, b10⟩
          go_wp2_with fail
          go_ret
          exact ⟨rfl, below_step B9.out b10⟩
        · rw [hA] at s8
          obtain ⟨o8, p8, hv8⟩ := s8.form
          subst hv8
          clear s8 hA
          rcases hX with hX | hX
          all_goals
            rw [hX]
            clear hX
            go_wp2_with fail
            refine (fixed_val _).mono ?_; rintro e w10 ⟨rfl, b10⟩
            go_wp2_with fail
            go_ret
            exact ⟨rfl, below_step B8.out b10⟩
theorem ScriptBack_walk (v0 : Value) (s : ByteArray) (w : World) (o0 : Row.Opn Try.prog w 22 v0) (hs : s.size ≤ 140737488351232) :
    Calls Try.prog 4 #[v0, .string s] w fun e w' => e = .returned (.bool true) ∧ Below w.heap.size w w' := by
  obtain ⟨l, h1, h2, _⟩ := open_acts o0
  exact back_main l v0 s w h1 h2 hs
end Go.Proofs.Ytjkiofgllmjkcaa.L
