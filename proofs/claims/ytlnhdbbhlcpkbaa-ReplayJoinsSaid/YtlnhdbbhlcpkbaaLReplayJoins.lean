/- ReplayJoins: whatever is handed in, the law answers true. No condition. -/
import Derived.Test.YtlnhdbbhlcpkbaaRo
import Derived.Test.YtlnhdbbhlcpkbaaRq
namespace Go.Proofs.Ytlnhdbbhlcpkbaa.L
open Go.RowKit Go.Maps Go.Proofs.Ytlnhdbbhlcpkbaa.G Go.Proofs.Ytlnhdbbhlcpkbaa.WordPlain Go.Proofs.Ytlnhdbbhlcpkbaa.Loose
set_option linter.unusedVariables false
set_option linter.unusedSimpArgs false

set_option maxRecDepth 100000 in
set_option maxHeartbeats 8000000 in
theorem joins_main (l k : List Rec) (v u : Value) (w : World) (hv : LR 7 encR w v l) (hkl : ∀ r ∈ l, r.Kind) (hll : l.length ≤ 140737488351232) (hu : LR 7 encR w u k) (hkk : ∀ r ∈ k, r.Kind) (hlk : k.length ≤ 140737488351232) :
    Calls Try.prog 7 #[v, u] w fun e w' => e = .returned (.bool true) ∧ Below w.heap.size w w' := by
  have c1 := Cut_val w v l 20 hv hll (by decide)
  have l1 := cutsR_len l 20
  have l2 := cutsR_len k 20
  have k1 := cutsR_kind l 20 hkl
  have k2 := cutsR_kind k 20 hkk
  have C2 := Lib.hid (fun W (h : Below w.heap.size w W) => Cut_val W u k 20 (hu.below h (Nat.le_refl _)) hlk (by decide))
  obtain ⟨L, hL⟩ : ∃ x, x = cutsR l 20 := ⟨_, rfl⟩
  obtain ⟨K, hK⟩ : ∃ x, x = cutsR k 20 := ⟨_, rfl⟩
  rw [← hL] at c1 l1 k1
  rw [← hK] at C2 l2 k2
  have C1 := Lib.hid c1
  have L1 := Lib.hid l1
  have L2 := Lib.hid l2
  have K1 := Lib.hid k1
  have K2 := Lib.hid k2
  obtain ⟨oav, capv, hvv, _⟩ := hv
  obtain ⟨oau, capu, huu, _⟩ := hu
  subst hvv huu
  clear c1 l1 l2 k1 k2 hL hK hkl hkk hll hlk
  go_enter Try.func7, Try.ntmps7
  go_wp2_with fail
  refine C1.out.mono ?_; rintro e w1 ⟨⟨u1, rfl, o1⟩, b1⟩
  have O1 := Lib.hid o1
  have B1 := Lib.hid b1
  have c2 := C2.out w1 b1
  have C2' := Lib.hid c2
  clear o1 b1 c2 C2 C1
  go_wp2_with fail
  refine C2'.out.mono ?_; rintro e w2 ⟨⟨u2, rfl, o2⟩, b2⟩
  have hlr1 := (own_lr (k := 7) (enc := encR) (fun _ => rfl) O1.out).below b2 (Nat.le_refl _)
  have hlr2 := own_lr (k := 7) (enc := encR) (fun _ => rfl) o2
  have S1 := Lib.hid (SlV.own O1.out)
  have S2 := Lib.hid (SlV.own o2)
  have LR1 := Lib.hid hlr1
  have LR2 := Lib.hid hlr2
  have B2 := Lib.hid (stepR B1.out b2)
  obtain ⟨a1, c1, hf1⟩ := hlr1.form
  obtain ⟨a2, c2, hf2⟩ := hlr2.form
  subst hf1 hf2
  have own0 := own_new w2 42 7 encR w2.heap.size (Nat.le_refl _)
  have bb0 : Below w2.heap.size w2 (w2.alloc (.cells #[] 42)) := (Below.refl _ _).alloc (Nat.le_refl _) _
  obtain ⟨v3, w3, r3, o3, b3⟩ := own_appR (w2.alloc (.cells #[] 42)) w2.heap.size _ _ [] L own0 (LR1.out.below bb0 (Nat.le_refl _)) S1.out (by simp only [List.length_nil]; have := L1.out; omega) (by rw [alloc_sizeR]; omega)
  have bb3 := bb0.trans b3
  obtain ⟨v4, w4, r4, o4, b4⟩ := own_appR w3 w2.heap.size v3 _ ([] ++ L) K o3 (LR2.out.below bb3 (Nat.le_refl _)) S2.out (by simp only [List.nil_append]; have := L1.out; have := L2.out; omega) bb3.size
  have bb4 := bb3.trans b4
  rw [List.nil_append] at o4
  obtain ⟨LK, hLK⟩ : ∃ x, x = L ++ K := ⟨_, rfl⟩
  rw [← hLK] at o4
  have HLK := Lib.hid hLK
  have R3 := Lib.hid r3
  have R4 := Lib.hid r4
  have O4 := Lib.hid o4
  have BB4 := Lib.hid bb4
  have LR4 := Lib.hid (own_lr (k := 7) (enc := encR) (fun _ => rfl) o4)
  obtain ⟨a4, c4, hf4⟩ := LR4.out.form
  subst hf4
  have own5 := own_new w4 42 7 encR w4.heap.size (Nat.le_refl _)
  have OWN5 := Lib.hid own5
  have BB5 := Lib.hid (show Below w4.heap.size w4 (w4.alloc (.cells #[] 42)) from (Below.refl _ _).alloc (Nat.le_refl _) _)
  have nv := Newest_val2 L _ (w4.alloc (.cells #[] 42)) (by have := L1.out; omega) K1.out (LR1.out.below (stepR BB4.out BB5.out) (Nat.le_refl _))
  have NV := Lib.hid nv
  clear o2 b2 hlr1 hlr2 own0 bb0 r3 o3 b3 bb3 r4 o4 b4 bb4 own5 nv C2' hLK
  go_wp2_with (at_builtin; first | refine wpList_append_runR rfl _ _ 22 rfl _ _ v3 w3 rfl rfl R3.out ?_ | refine wpList_append_runR rfl _ _ 22 rfl _ _ _ w4 rfl rfl R4.out ?_)
  refine NV.out.mono ?_; rintro e w6 ⟨⟨u6, rfl, hu6, hs6⟩, b6⟩
  obtain ⟨v7, w7, r7, o7, b7⟩ := own_appR w6 w4.heap.size _ u6 [] (newL L) (OWN5.out.kept (grown_belowR b6) (apartR (by simp))) hu6 hs6 (by simp only [List.length_nil]; have := newL_len L; have := L1.out; omega) (Nat.le_trans BB5.out.size b6.size)
  rw [List.nil_append] at o7
  have bb7 : Below w4.heap.size w4 w7 := (stepR BB5.out b6).trans b7
  obtain ⟨a6, c6, hf6⟩ := hu6.form
  subst hf6
  have R7 := Lib.hid r7
  have O7 := Lib.hid o7
  have BB7 := Lib.hid bb7
  have nk := Newest_val2 K _ w7 (by have := L2.out; omega) K2.out (LR2.out.below (stepR BB4.out bb7) (Nat.le_refl _))
  have NK := Lib.hid nk
  clear hu6 hs6 b6 r7 o7 b7 bb7 nk NV R3 R4
  go_wp2_with (at_builtin; refine wpList_append_runR rfl _ _ 22 rfl _ _ v7 w7 rfl rfl R7.out ?_)
  refine NK.out.mono ?_; rintro e w8 ⟨⟨u8, rfl, hu8, hs8⟩, b8⟩
  obtain ⟨v9, w9, r9, o9, b9⟩ := own_appR w8 w4.heap.size v7 u8 (newL L) (newL K) (World.ownsRow.kept O7.out (grown_belowR b8) (apartR (by simp))) hu8 hs8 (by have := newL_len L; have := L1.out; have := newL_len K; have := L2.out; omega) (Nat.le_trans BB7.out.size b8.size)
  obtain ⟨NN, hNN⟩ : ∃ x, x = newL L ++ newL K := ⟨_, rfl⟩
  rw [← hNN] at o9
  have HNN := Lib.hid hNN
  have bb9 : Below w4.heap.size w4 w9 := (BB7.out.trans (b8.mono BB7.out.size)).trans b9
  obtain ⟨a8, c8, hf8⟩ := hu8.form
  subst hf8
  have R9 := Lib.hid r9
  have BB9 := Lib.hid bb9
  have LR9 := Lib.hid (own_lr (k := 7) (enc := encR) (fun _ => rfl) o9)
  obtain ⟨a9, c9, hf9⟩ := LR9.out.form
  subst hf9
  have BT9 := Lib.hid (stepR B2.out (stepR BB4.out bb9))
  have na := Newest_val LK _ w9 (by rw [HLK.out, List.length_append]; have := L1.out; have := L2.out; omega) (fun r hr => by rw [HLK.out] at hr; rcases List.mem_append.1 hr with h | h; exact K1.out r h; exact K2.out r h) (LR4.out.below bb9 (Nat.le_refl _))
  have NA := Lib.hid na
  clear hu8 hs8 b8 r9 o9 b9 bb9 na NK R7 hNN
  go_wp2_with (at_builtin; refine wpList_append_runR rfl _ _ 22 rfl _ _ _ w9 rfl rfl R9.out ?_)
  refine NA.out.mono ?_; rintro e wa ⟨⟨ua, rfl, hua⟩, ba⟩
  have rfa := Refs_val wa ua _ hua (Nat.le_trans (newL_len _) (by rw [HLK.out, List.length_append]; have := L1.out; have := L2.out; omega))
  have RFA := Lib.hid rfa
  have BA := Lib.hid ba
  clear rfa hua ba NA R9
  go_wp2_with fail
  refine RFA.out.mono ?_; rintro e wb ⟨⟨ub, rfl, hub⟩, bb⟩
  have BAB := Lib.hid (stepR BA.out bb)
  have HUB := Lib.hid hub
  have lenm : NN.length ≤ 1000000 := by rw [HNN.out, List.length_append]; have := newL_len L; have := L1.out; have := newL_len K; have := L2.out; omega
  have nb := Newest_val NN _ wb lenm (fun r hr => by rw [HNN.out] at hr; rcases List.mem_append.1 hr with h | h; exact K1.out r (newL_sub _ r h).1; exact K2.out r (newL_sub _ r h).1) (LR9.out.below BAB.out (Nat.le_refl _))
  rw [show newL NN = newL LK by rw [HNN.out, HLK.out]; exact newL_joins L K] at nb
  have NB := Lib.hid nb
  clear hub bb nb lenm RFA
  go_wp2_with fail
  refine NB.out.mono ?_; rintro e wc ⟨⟨uc, rfl, huc⟩, bc⟩
  have len2 : (newL LK).length ≤ 1000000 := Nat.le_trans (newL_len _) (by rw [HLK.out, List.length_append]; have := L1.out; have := L2.out; omega)
  have rfb := Refs_val wc uc _ huc len2
  have RFB := Lib.hid rfb
  have HUC := Lib.hid (HUB.out.below bc (Nat.le_refl _))
  have BC := Lib.hid (stepR BAB.out bc)
  have LEN2 := Lib.hid len2
  clear rfb huc bc NB len2
  go_wp2_with fail
  refine RFB.out.mono ?_; rintro e wd ⟨⟨ud, rfl, hud⟩, bd⟩
  have rc := Recs_val wd ub ud _ _ (HUC.out.below bd (Nat.le_refl _)) hud LEN2.out
  rw [decide_eq_true rfl] at rc
  have RC := Lib.hid rc
  have BD := Lib.hid (stepR BC.out bd)
  clear rc hud bd RFB
  go_wp2_with fail
  refine RC.out.mono ?_; rintro e we ⟨rfl, be⟩
  have BE := Lib.hid (stepR BT9.out (stepR BD.out be))
  clear be RC
  go_wp2_with fail
  refine (fixed_val we).mono ?_; rintro e wf ⟨rfl, bf⟩
  go_wp2_with fail
  go_ret
  exact ⟨rfl, stepR BE.out bf⟩
theorem ReplayJoins_walk (v0 v1 : Value) (w : World) (o0 : Row.Opn Try.prog w 22 v0) (o1 : Row.Opn Try.prog w 22 v1) :
    Calls Try.prog 7 #[v0, v1] w fun e w' => e = .returned (.bool true) ∧ Below w.heap.size w w' := by
  obtain ⟨l, h1, h2, h3⟩ := open_recs o0
  obtain ⟨k, h4, h5, h6⟩ := open_recs o1
  exact joins_main l k v0 v1 w h1 h2 h3 h4 h5 h6
end Go.Proofs.Ytlnhdbbhlcpkbaa.L
