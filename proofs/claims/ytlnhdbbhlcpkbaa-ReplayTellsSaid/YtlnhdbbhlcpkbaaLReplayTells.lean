/- ReplayTells: whatever is handed in, the law answers true. No condition. -/
import Derived.Test.YtlnhdbbhlcpkbaaRo
import Derived.Test.YtlnhdbbhlcpkbaaRq
import Derived.Test.YtlnhdbbhlcpkbaaRk
namespace Go.Proofs.Ytlnhdbbhlcpkbaa.L
open Go.RowKit Go.Maps Go.Proofs.Ytlnhdbbhlcpkbaa.G Go.Proofs.Ytlnhdbbhlcpkbaa.WordPlain Go.Proofs.Ytlnhdbbhlcpkbaa.Loose
set_option linter.unusedVariables false
set_option linter.unusedSimpArgs false

set_option maxRecDepth 100000 in
set_option maxHeartbeats 8000000 in
theorem tells_main (l : List Rec) (v : Value) (now ver : Nat) (w : World) (hv : LR 7 encR w v l) (hkl : ∀ r ∈ l, r.Kind) (hll : l.length ≤ 140737488351232) :
    Calls Try.prog 3 #[v, .int .u64 (now : Int), .int .u64 (ver : Int)] w fun e w' => e = .returned (.bool true) ∧ Below w.heap.size w w' := by
  have c1 := Cut_val w v l 40 hv hll (by decide)
  have l1 := cutsR_len l 40
  have k1 := cutsR_kind l 40 hkl
  obtain ⟨L, hL⟩ : ∃ x, x = cutsR l 40 := ⟨_, rfl⟩
  rw [← hL] at c1 l1 k1
  have C1 := Lib.hid c1
  have L1 := Lib.hid (show L.length ≤ 1000 by omega)
  have L6 := Lib.hid (show L.length ≤ 1000000 by omega)
  have K1 := Lib.hid k1
  have N6 := Lib.hid (show (newL L).length ≤ 1000000 from Nat.le_trans (newL_len L) (by omega))
  have S6 := Lib.hid (show (sesL now (newL L)).length ≤ 1000000 from Nat.le_trans (sesL_len _ _) (Nat.le_trans (newL_len L) (by omega)))
  have U6 := Lib.hid (show (uptoL ver L).length ≤ 1000000 from Nat.le_trans (List.length_filter_le _ _) (by omega))
  obtain ⟨oav, capv, hvv, _⟩ := hv
  subst hvv
  clear c1 l1 k1 hL hkl hll
  go_enter Try.func3, Try.ntmps3
  go_wp2_with fail
  refine C1.out.mono ?_; rintro e w1 ⟨⟨u1, rfl, o1⟩, b1⟩
  have S1 := Lib.hid (SlV.own o1)
  have LR1 := Lib.hid (own_lr (k := 7) (enc := encR) (fun _ => rfl) o1)
  have B1 := Lib.hid b1
  have na := Newest_val L _ w1 L6.out K1.out LR1.out
  have NA := Lib.hid na
  clear o1 b1 na C1
  go_wp2_with fail
  refine NA.out.mono ?_; rintro e w2 ⟨⟨u2, rfl, h2⟩, b2⟩
  have R2 := Lib.hid (Refs_val w2 u2 _ h2 N6.out)
  have B2 := Lib.hid b2
  clear h2 b2 NA
  go_wp2_with fail
  refine R2.out.mono ?_; rintro e w3 ⟨⟨u3, rfl, h3⟩, b3⟩
  have B3 := Lib.hid (stepR B2.out b3)
  have H3 := Lib.hid h3
  have R3 := Lib.hid (Refs_val w3 u1 _ (LR1.out.below B3.out (Nat.le_refl _)) L6.out)
  clear h3 b3 R2
  go_wp2_with fail
  refine R3.out.mono ?_; rintro e w4 ⟨⟨u4, rfl, h4⟩, b4⟩
  have B4 := Lib.hid (stepR B3.out b4)
  have H34 := Lib.hid (H3.out.below b4 (Nat.le_refl _))
  have NB := Lib.hid (rNewest_val w4 u4 L h4 L1.out)
  clear h4 b4 R3 H3
  go_wp2_with fail
  refine NB.out.mono ?_; rintro e w5 ⟨⟨u5, rfl, h5⟩, b5⟩
  have rc := Recs_val w5 u3 u5 _ _ (H34.out.below b5 (Nat.le_refl _)) (own_lr (k := 7) (enc := encR) (fun _ => rfl) h5) N6.out
  rw [decide_eq_true rfl] at rc
  have RC := Lib.hid rc
  have B5 := Lib.hid (stepR B4.out b5)
  clear h5 b5 rc NB H34
  go_wp2_with fail
  refine RC.out.mono ?_; rintro e w6 ⟨rfl, b6⟩
  have B6 := Lib.hid (stepR B5.out b6)
  have sv := Sessions_val w6 u1 L now (LR1.out.below B6.out (Nat.le_refl _)) L6.out K1.out
  have SV := Lib.hid sv
  clear b6 RC sv
  go_wp2_with fail
  refine SV.out.mono ?_; rintro e w7 ⟨⟨u7, rfl, h7⟩, b7⟩
  have V7 := Lib.hid (Lives_val w7 u7 _ h7 S6.out)
  have B7 := Lib.hid (stepR B6.out b7)
  clear h7 b7 SV
  go_wp2_with fail
  refine V7.out.mono ?_; rintro e w8 ⟨⟨u8, rfl, h8⟩, b8⟩
  have B8 := Lib.hid (stepR B7.out b8)
  have H8 := Lib.hid h8
  have R8 := Lib.hid (Refs_val w8 u1 _ (LR1.out.below B8.out (Nat.le_refl _)) L6.out)
  clear h8 b8 V7
  go_wp2_with fail
  refine R8.out.mono ?_; rintro e w9 ⟨⟨u9, rfl, h9⟩, b9⟩
  have H89 := Lib.hid (H8.out.below b9 (Nat.le_refl _))
  have B9 := Lib.hid (stepR B8.out b9)
  have SB := Lib.hid (rSessions_val w9 u9 L now h9 L1.out)
  clear h9 b9 R8 H8
  go_wp2_with fail
  refine SB.out.mono ?_; rintro e wa ⟨⟨ua, rfl, ha⟩, ba⟩
  have sm := Same_val wa u8 ua _ _ (H89.out.below ba (Nat.le_refl _)) ha S6.out
  rw [decide_eq_true rfl] at sm
  have SM := Lib.hid sm
  have BA := Lib.hid (stepR B9.out ba)
  clear ha ba sm SB H89
  go_wp2_with fail
  refine SM.out.mono ?_; rintro e wb ⟨rfl, bb⟩
  have BB := Lib.hid (stepR BA.out bb)
  have UV := Lib.hid (Upto_val wb u1 L ver (LR1.out.below BB.out (Nat.le_refl _)) S1.out L6.out)
  clear bb SM
  go_wp2_with fail
  refine UV.out.mono ?_; rintro e wc ⟨⟨uc, rfl, hc⟩, bc⟩
  have RFC := Lib.hid (Refs_val wc uc _ hc U6.out)
  have BC := Lib.hid (stepR BB.out bc)
  clear hc bc UV
  go_wp2_with fail
  refine RFC.out.mono ?_; rintro e wd ⟨⟨ud, rfl, hd⟩, bd⟩
  have HD := Lib.hid hd
  have BD := Lib.hid (stepR BC.out bd)
  have RFD := Lib.hid (Refs_val wd u1 _ (LR1.out.below BD.out (Nat.le_refl _)) L6.out)
  clear hd bd RFC
  go_wp2_with fail
  refine RFD.out.mono ?_; rintro e we ⟨⟨ue, rfl, he⟩, be⟩
  have HDE := Lib.hid (HD.out.below be (Nat.le_refl _))
  have BE := Lib.hid (stepR BD.out be)
  have UE := Lib.hid (rUpto_val we ue L ver he L6.out)
  clear he be RFD HD
  go_wp2_with fail
  refine UE.out.mono ?_; rintro e wf ⟨⟨uf, rfl, hf⟩, bf⟩
  have rc := Recs_val wf ud uf _ _ (HDE.out.below bf (Nat.le_refl _)) hf U6.out
  rw [decide_eq_true rfl] at rc
  have RC := Lib.hid rc
  have BF := Lib.hid (stepR BE.out bf)
  clear hf bf rc UE HDE
  go_wp2_with fail
  refine RC.out.mono ?_; rintro e wg ⟨rfl, bg⟩
  have BG := Lib.hid (stepR B1.out (stepR BF.out bg))
  clear bg RC
  go_wp2_with fail
  refine (fixed_val wg).mono ?_; rintro e wh ⟨rfl, bh⟩
  go_wp2_with fail
  go_ret
  exact ⟨rfl, stepR BG.out bh⟩
theorem ReplayTells_walk (v0 : Value) (a1 a2 : Int) (w : World) (o0 : Row.Opn Try.prog w 22 v0) (f1 : (Lit.int .u64 a1).wf = true) (f2 : (Lit.int .u64 a2).wf = true) :
    Calls Try.prog 3 #[v0, .int .u64 a1, .int .u64 a2] w fun e w' => e = .returned (.bool true) ∧ Below w.heap.size w w' := by
  obtain ⟨l, h1, h2, h3⟩ := open_recs o0
  obtain ⟨x, rfl, _⟩ := u64_wf a1 f1
  obtain ⟨y, rfl, _⟩ := u64_wf a2 f2
  exact tells_main l v0 x y w h1 h2 h3
end Go.Proofs.Ytlnhdbbhlcpkbaa.L
