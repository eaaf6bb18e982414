/- ReplayTomb: whatever is handed in, the law answers true. No condition. -/
import Derived.Test.YtlnhdbbhlcpkbaaRo
import Derived.Test.YtlnhdbbhlcpkbaaRq
import Derived.Test.YtlnhdbbhlcpkbaaGFast
import Derived.BigQuiet
import Derived.Test.YtlnhdbbhlcpkbaaRz
namespace Go.Proofs.Ytlnhdbbhlcpkbaa.L
open Go.RowKit Go.Maps Go.Proofs.Ytlnhdbbhlcpkbaa.G Go.Proofs.Ytlnhdbbhlcpkbaa.WordPlain Go.Proofs.Ytlnhdbbhlcpkbaa.Loose
set_option linter.unusedVariables false
set_option linter.unusedSimpArgs false

set_option maxRecDepth 100000 in
set_option maxHeartbeats 8000000 in
theorem tomb_main (l : List Rec) (v : Value) (s : ByteArray) (now : Nat) (w : World) (hs : s.size ≤ 140737488351232) (hnow : now < 18446744073709551616) (hv : LR 7 encR w v l) (hkl : ∀ r ∈ l, r.Kind) (hll : l.length ≤ 140737488351232) :
    Calls Try.prog 8 #[v, .string s, .int .u64 (now : Int)] w fun e w' => e = .returned (.bool true) ∧ Below w.heap.size w w' := by
  have c1 := Cut_val w v l 40 hv hll (by decide)
  have l1 := cutsR_len l 40
  have k1 := cutsR_kind l 40 hkl
  obtain ⟨L, hL⟩ : ∃ x, x = cutsR l 40 := ⟨_, rfl⟩
  rw [← hL] at c1 l1 k1
  have C1 := Lib.hid c1
  obtain ⟨oav, capv, hvv, _⟩ := hv
  subst hvv
  obtain ⟨n, hn⟩ : ∃ n, n = L.length := ⟨_, rfl⟩
  have N40 : n ≤ 40 := by omega
  have HN := Lib.hid hn
  obtain ⟨ki, hki⟩ : ∃ ki, ki = min s.size 20 := ⟨_, rfl⟩
  have s1 : ∀ W : World, (Instr.slice 9 (.string s) none (some (.int .i64 (ki : Int))) none).run Try.prog W = .ok (.string (s.extract 0 ki)) W := by
    intro W
    rw [run_slice_string_h W _ _ Try.underlying9 .i64 (ki : Int) (by omega) (by omega), Int.toNat_natCast]
  have m1 : ∀ W, (Builtin.min_ #[3, 3] 3 #[.int .i64 (s.size : Int), .int .i64 20]).run Try.prog W = .ok (.int .i64 (ki : Int)) W := by
    intro W
    rw [run_min2R, show min (s.size : Int) 20 = (ki : Int) from by omega]
  have hi' : ¬ (s.size : Int) < (ki : Int) := by omega
  obtain ⟨id, hid⟩ : ∃ x, x = s.extract 0 ki := ⟨_, rfl⟩
  have ids : id.size ≤ 20 := by rw [hid, ByteArray.size_extract]; omega
  rw [← hid] at s1
  obtain ⟨M, hM⟩ : ∃ M, M = L.map Rec.low := ⟨_, rfl⟩
  have MLEN := Lib.hid (show M.length ≤ 40 by rw [hM, List.length_map]; omega)
  have MK := Lib.hid (show ∀ r ∈ M, r.Kind from fun r hr => by rw [hM] at hr; obtain ⟨x, hx, rfl⟩ := List.mem_map.1 hr; exact (k1 x hx).low)
  have mv : ∀ r ∈ M, r.ver ≤ 1000000 := fun r hr => by rw [hM] at hr; obtain ⟨x, hx, rfl⟩ := List.mem_map.1 hr; show x.ver % 1000000 ≤ _; omega
  have MA := Lib.hid (show lowI L n = M by rw [hM, hn]; exact lowI_all L)
  have T2K := Lib.hid (show Rec.Kind ⟨0, 0, 2, 1000000, 0, id, ⟨#[]⟩⟩ from ⟨by show (0:Nat) < 18446744073709551616; omega, by show (0:Nat) < 4294967296; omega, by show (-9223372036854775808 : Int) ≤ 2 ∧ (2 : Int) < 9223372036854775808; omega, by show 1000000 < 18446744073709551616; omega, by show (0 : Nat) < 18446744073709551616; omega, by show id.size ≤ _; omega, by show (ByteArray.mk #[]).size ≤ _; decide⟩)
  have T1K := Lib.hid (show Rec.Kind ⟨0, 0, 1, 1000000, 18446744073709551615, id, ⟨#[]⟩⟩ from ⟨by show (0:Nat) < 18446744073709551616; omega, by show (0:Nat) < 4294967296; omega, by show (-9223372036854775808 : Int) ≤ 1 ∧ (1 : Int) < 9223372036854775808; omega, by show 1000000 < 18446744073709551616; omega, by show (18446744073709551615 : Nat) < 18446744073709551616; omega, by show id.size ≤ _; omega, by show (ByteArray.mk #[]).size ≤ _; decide⟩)
  obtain ⟨S0, hS0⟩ : ∃ x, x = sesL now (newL M) := ⟨_, rfl⟩
  obtain ⟨Q, hQ⟩ : ∃ x, x = S0.filter (fun x => decide (x.id ≠ id)) := ⟨_, rfl⟩
  obtain ⟨C, hC⟩ : ∃ x, x = sesL now (newL (M ++ [⟨0, 0, 1, 1000000, 18446744073709551615, id, ⟨#[]⟩⟩])) := ⟨_, rfl⟩
  have G2 := Lib.hid (show sesL now (newL (M ++ [⟨0, 0, 2, 1000000, 0, id, ⟨#[]⟩⟩])) = Q by rw [hQ, hS0]; exact top_gone (t := ⟨0, 0, 2, 1000000, 0, id, ⟨#[]⟩⟩) rfl mv)
  have G1 := Lib.hid hC.symm
  have CF := Lib.hid (show C.filter (fun x => decide (x.id ≠ id)) = Q by rw [hQ, hS0, hC]; exact top_neq (t := ⟨0, 0, 1, 1000000, 18446744073709551615, id, ⟨#[]⟩⟩) (Or.inl rfl))
  have CI := Lib.hid (show ∀ x ∈ C, x.id = id → x.va = ⟨#[]⟩ ∧ x.dl = 18446744073709551615 from fun x hx he => by
    rw [hC] at hx
    have := (top_is (t := ⟨0, 0, 1, 1000000, 18446744073709551615, id, ⟨#[]⟩⟩) (Or.inl rfl) mv hx he).2.2
    rw [this]; exact ⟨rfl, rfl⟩)
  have CT := Lib.hid (show now < 18446744073709551615 → ∃ x ∈ C, x.id = id from fun h => ⟨_, hC ▸ top_there (t := ⟨0, 0, 1, 1000000, 18446744073709551615, id, ⟨#[]⟩⟩) rfl mv h, rfl⟩)
  have S40 := Lib.hid (show S0.length ≤ 40 by rw [hS0]; exact Nat.le_trans (sesL_len _ _) (Nat.le_trans (newL_len _) MLEN.out))
  have C41 := Lib.hid (show C.length ≤ 41 by rw [hC]; exact Nat.le_trans (sesL_len _ _) (Nat.le_trans (newL_len _) (by rw [List.length_append, List.length_singleton]; have := MLEN.out; omega)))
  have Q40 := Lib.hid (show Q.length ≤ 1000000 by rw [hQ]; exact Nat.le_trans (List.length_filter_le _ _) (Nat.le_trans S40.out (by decide)))
  have HS0 := Lib.hid hS0.symm
  have HQ := Lib.hid hQ.symm
  obtain ⟨d, hd⟩ : ∃ d, d = decide (now = 18446744073709551615) := ⟨_, rfl⟩
  have HD := Lib.hid hd
  have d1 : ((now : Int) == 18446744073709551615) = d := by rw [hd]; by_cases h : now = 18446744073709551615; subst h; rfl; rw [decide_eq_false h]; exact beq_eq_false_iff_ne.2 (by omega)
  have d2 : decide ((now : Int) = 18446744073709551615) = d := by rw [hd]; by_cases h : now = 18446744073709551615; subst h; rfl; rw [decide_eq_false h]; exact decide_eq_false (by omega)
  have d3 : (now == 18446744073709551615) = d := by rw [hd]; rfl
  have D1 := Lib.hid d1
  have D2 := Lib.hid d2
  have D3 := Lib.hid d3
  clear c1 l1 hL hkl hll hn hki hid hM mv hS0 hQ hC hd hs d1 d2 d3
  go_enter Try.func8, Try.ntmps8
  go_wp2_with fail
  refine C1.out.mono ?_; rintro e w1 ⟨⟨u1, rfl, o1⟩, b1⟩
  have S1 := Lib.hid (SlV.own o1)
  obtain ⟨oa, cap, hf1, -⟩ := own_lr (k := 7) (enc := encR) (fun _ => rfl) o1
  subst hf1
  rw [← HN.out] at o1 S1 ⊢
  have O1 := Lib.hid o1
  have BW1 := Lib.hid b1
  clear o1 b1 C1
  go_wp2_with fail
  clear s1 m1 hi'
  go_loopw [7] (fun iv wr => ∃ q : Nat, q ≤ n ∧ iv = .int .i64 q ∧ OwnL w.heap.size 42 7 encR wr (.slice oa n cap) (lowI L q) ∧ Below w.heap.size w wr) (fun iv _ => n - (intOf iv).toNat)
  case atStart => exact ⟨0, by omega, rfl, by rw [lowI_zero]; exact O1.out, BW1.out⟩
  case round =>
    obtain ⟨q, hq, rfl, hown, hbl⟩ := hrel
    have OWN := Lib.hid hown
    have HB := Lib.hid hbl
    clear hown hbl
    by_cases hlt : q < n
    · have hki : (q : Int) < (n : Int) := by omega
      have hqL : q < L.length := by have := HN.out; omega
      have hqI : q < (lowI L q).length := by rw [lowI_len]; exact hqL
      obtain ⟨g, hg⟩ : ∃ g, oa = some ⟨g, 0, none⟩ := by
        rcases OWN.out.2 with ⟨h, _⟩ | ⟨g, _, _, h, _⟩
        · injection h with _ h _; omega
        · injection h with h _ _; exact ⟨g, h⟩
      subst hg
      have at0 := own_atR (n := n) (xs := (lowI L q).flatMap encR) (by have := OWN.out; unfold OwnL at this; rw [lowI_len, ← HN.out] at this; exact this) (q * 7 + 3) (.int .u64 ((lowI L q)[q].ver : Int)) ((flat_at 7 encR (fun _ => rfl) _ _ _ hqI (by decide)).trans rfl)
      rw [lowI_at L q hqL hqI] at at0
      obtain ⟨x, hx⟩ : ∃ x, x = L[q] := ⟨_, rfl⟩
      obtain ⟨m, hm⟩ : ∃ m, m = x.ver % 1000000 := ⟨_, rfl⟩
      have st := own_set (k := 7) (enc := encR) (fun _ => rfl) (by rw [lowI_len]; exact HN.out) OWN.out q 3 (.int .u64 (m : Int)) x.low hqI (by decide) (by rw [lowI_at L q hqL hqI, ← hx, hm]; rfl)
      have ls := lowI_set L q hqL
      rw [← hx] at at0 ls
      rw [ls] at st
      have OWN2 := Lib.hid st.1
      have HB2 := Lib.hid (HB.out.trans st.2.1)
      have fr := st.2.2
      have t1 : Int.tmod (x.ver : Int) 1000000 = (m : Int) := by rw [hm]; exact (Int.ofNat_tmod x.ver 1000000).symm
      have t2 : (x.ver : Int) % 1000000 = (m : Int) := by rw [hm]; rfl
      have t3 : IntKind.u64.wrap (m : Int) = (m : Int) := IntWalk.u64_in _ (by omega)
      have WJ := Lib.hid (wrR q (by omega))
      clear hm hx st ls
      go_wp2_with fail
      go_roundw
      case rel => exact ⟨q + 1, by omega, by first | rfl | (rw [WJ.out]) | go_num, OWN2.out, HB2.out⟩
      case measure => (try rw [WJ.out]); simp only [intOf, Int.toNat_natCast]; omega
    · obtain rfl : q = n := by omega
      rw [MA.out] at OWN
      obtain ⟨w2, hw2⟩ : ∃ x, x = wr := ⟨_, rfl⟩
      subst hw2
      have lrm := own_lr (k := 7) (enc := encR) (fun _ => rfl) OWN.out
      clear hlt
      have LRM0 := Lib.hid lrm
      have SM := S1
      clear lrm
      have sv := Sessions_val w2 _ M now LRM0.out (by have := MLEN.out; omega) MK.out
      rw [HS0.out] at sv
      have SV := Lib.hid sv
      clear sv
      go_wp2_with fail
      refine SV.out.mono ?_; rintro e w3 ⟨⟨u3, rfl, h3⟩, b3⟩
      have BW3 := Lib.hid (HB.out.trans (b3.mono HB.out.size))
      have H3 := Lib.hid h3
      have LRM := Lib.hid (LRM0.out.below b3 (Nat.le_refl _))
      have B3 := Lib.hid (Below.refl w3.heap.size w3)
      clear h3 b3 SV
      have own0 := own_new w3 42 7 encR w3.heap.size (Nat.le_refl _)
      have bb0 : Below w3.heap.size w3 (w3.alloc (.cells #[] 42)) := (Below.refl _ _).alloc (Nat.le_refl _) _
      obtain ⟨va, w4, ra, oa1, ba⟩ := own_appR (w3.alloc (.cells #[] 42)) w3.heap.size _ (.slice oa q cap) [] M own0 (LRM.out.below (stepR B3.out bb0) (Nat.le_refl _)) SM.out (by simp only [List.length_nil]; have := MLEN.out; omega) (by rw [alloc_sizeR]; omega)
      rw [List.nil_append] at oa1
      have bba := bb0.trans ba
      have bb1 : Below w3.heap.size w3 (w4.alloc (.cells (#[.int .u64 0, .int .u32 0, .int .i64 2, .int .u64 1000000, .int .u64 0, .string id, .string ⟨#[]⟩] : Array Value) 42)) := bba.alloc bba.size _
      have lit := lit_R w4 [⟨0, 0, 2, 1000000, 0, id, ⟨#[]⟩⟩] #[.int .u64 0, .int .u32 0, .int .i64 2, .int .u64 1000000, .int .u64 0, .string id, .string ⟨#[]⟩] 1 rfl rfl (by decide)
      obtain ⟨vb, w5, rb, ob1, bb⟩ := own_appR (w4.alloc (.cells (#[.int .u64 0, .int .u32 0, .int .i64 2, .int .u64 1000000, .int .u64 0, .string id, .string ⟨#[]⟩] : Array Value) 42)) w3.heap.size va (.slice (some ⟨w4.heap.size, 0, none⟩) 1 1) M [⟨0, 0, 2, 1000000, 0, id, ⟨#[]⟩⟩] (World.ownsRow.alloc oa1 _) lit (Or.inr ⟨_, _, _, rfl⟩) (by simp only [List.length_singleton]; have := MLEN.out; omega) bb1.size
      have bbb := bb1.trans bb
      obtain ⟨MT, hMT⟩ : ∃ x, x = M ++ [⟨0, 0, 2, 1000000, 0, id, ⟨#[]⟩⟩] := ⟨_, rfl⟩
      have U6E := Lib.hid (G2.out)
      rw [← hMT] at ob1 U6E
      have lrt := own_lr (k := 7) (enc := encR) (fun _ => rfl) ob1
      obtain ⟨ax, cx, hfx⟩ := lrt.form
      subst hfx
      have sv := Sessions_val w5 _ MT now lrt (by rw [hMT, List.length_append, List.length_singleton]; have := MLEN.out; omega) (fun r hr => by rw [hMT] at hr; rcases List.mem_append.1 hr with h | h; exact MK.out r h; rw [List.mem_singleton.1 h]; exact T2K.out)
      rw [U6E.out] at sv
      have SV := Lib.hid sv
      have RA := Lib.hid ra
      have RB := Lib.hid rb
      have B5 := Lib.hid (stepR B3.out bbb)
      have BT5 := Lib.hid bbb
      clear own0 bb0 ra oa1 ba bba bb1 lit rb ob1 bb bbb lrt sv hMT
      go_wp2_with (at_builtin; first | (refine wpList_append_runR rfl _ _ 22 rfl va (.slice (some ⟨w4.heap.size, 0, none⟩) 1 1) _ w5 rfl rfl RB.out ?_) | (refine wpList_append_runR rfl _ _ 22 rfl (.slice (some ⟨w3.heap.size, 0, none⟩) 0 0) (.slice oa q cap) va w4 rfl rfl RA.out ?_))
      refine SV.out.mono ?_; rintro e w6 ⟨⟨u6, rfl, h1⟩, bb⟩
      have U6 := Lib.hid h1
      have B6 := Lib.hid (stepR B5.out bb)
      have BT6 := Lib.hid (stepR BT5.out bb)
      clear h1 bb SV RA RB
      have own0 := own_new w6 42 7 encR w6.heap.size (Nat.le_refl _)
      have bb0 : Below w6.heap.size w6 (w6.alloc (.cells #[] 42)) := (Below.refl _ _).alloc (Nat.le_refl _) _
      obtain ⟨va, w7, ra, oa1, ba⟩ := own_appR (w6.alloc (.cells #[] 42)) w6.heap.size _ (.slice oa q cap) [] M own0 (LRM.out.below (stepR B6.out bb0) (Nat.le_refl _)) SM.out (by simp only [List.length_nil]; have := MLEN.out; omega) (by rw [alloc_sizeR]; omega)
      rw [List.nil_append] at oa1
      have bba := bb0.trans ba
      have bb1 : Below w6.heap.size w6 (w7.alloc (.cells (#[.int .u64 0, .int .u32 0, .int .i64 1, .int .u64 1000000, .int .u64 18446744073709551615, .string id, .string ⟨#[]⟩] : Array Value) 42)) := bba.alloc bba.size _
      have lit := lit_R w7 [⟨0, 0, 1, 1000000, 18446744073709551615, id, ⟨#[]⟩⟩] #[.int .u64 0, .int .u32 0, .int .i64 1, .int .u64 1000000, .int .u64 18446744073709551615, .string id, .string ⟨#[]⟩] 1 rfl rfl (by decide)
      obtain ⟨vb, w8, rb, ob1, bb⟩ := own_appR (w7.alloc (.cells (#[.int .u64 0, .int .u32 0, .int .i64 1, .int .u64 1000000, .int .u64 18446744073709551615, .string id, .string ⟨#[]⟩] : Array Value) 42)) w6.heap.size va (.slice (some ⟨w7.heap.size, 0, none⟩) 1 1) M [⟨0, 0, 1, 1000000, 18446744073709551615, id, ⟨#[]⟩⟩] (World.ownsRow.alloc oa1 _) lit (Or.inr ⟨_, _, _, rfl⟩) (by simp only [List.length_singleton]; have := MLEN.out; omega) bb1.size
      have bbb := bb1.trans bb
      obtain ⟨MT, hMT⟩ : ∃ x, x = M ++ [⟨0, 0, 1, 1000000, 18446744073709551615, id, ⟨#[]⟩⟩] := ⟨_, rfl⟩
      have U9E := Lib.hid (G1.out)
      rw [← hMT] at ob1 U9E
      have lrt := own_lr (k := 7) (enc := encR) (fun _ => rfl) ob1
      obtain ⟨ax, cx, hfx⟩ := lrt.form
      subst hfx
      have sv := Sessions_val w8 _ MT now lrt (by rw [hMT, List.length_append, List.length_singleton]; have := MLEN.out; omega) (fun r hr => by rw [hMT] at hr; rcases List.mem_append.1 hr with h | h; exact MK.out r h; rw [List.mem_singleton.1 h]; exact T1K.out)
      rw [U9E.out] at sv
      have SV := Lib.hid sv
      have RA := Lib.hid ra
      have RB := Lib.hid rb
      have B8 := Lib.hid (stepR B6.out bbb)
      have BT8 := Lib.hid bbb
      clear own0 bb0 ra oa1 ba bba bb1 lit rb ob1 bb bbb lrt sv hMT
      go_wp2_with (at_builtin; first | (refine wpList_append_runR rfl _ _ 22 rfl va (.slice (some ⟨w7.heap.size, 0, none⟩) 1 1) _ w8 rfl rfl RB.out ?_) | (refine wpList_append_runR rfl _ _ 22 rfl (.slice (some ⟨w6.heap.size, 0, none⟩) 0 0) (.slice oa q cap) va w7 rfl rfl RA.out ?_))
      refine SV.out.mono ?_; rintro e w9 ⟨⟨u9, rfl, h1⟩, bb⟩
      have U9 := Lib.hid h1
      have B9 := Lib.hid (stepR B8.out bb)
      have BT9 := Lib.hid (stepR BT8.out bb)
      clear h1 bb SV RA RB

      obtain ⟨o3, c3, hf3, -, hx3⟩ := H3.out.below B9.out (Nat.le_refl _)
      obtain ⟨o9, c9, hf9, -, hx9⟩ := U9.out
      subst hf3 hf9
      have AT3 := Lib.hid hx3
      have AT9 := Lib.hid hx9
      obtain ⟨nS, hnS⟩ : ∃ x, x = S0.length := ⟨_, rfl⟩
      obtain ⟨nC, hnC⟩ : ∃ x, x = C.length := ⟨_, rfl⟩
      have nS40 : nS ≤ 40 := by have := S40.out; omega
      have nC41 : nC ≤ 41 := by have := C41.out; omega
      rw [← hnS, ← hnC]
      have HNS := Lib.hid hnS
      have HNC := Lib.hid hnC
      have OW := Lib.hid (own_new w9 46 3 encS w9.heap.size (Nat.le_refl _))
      have BO := Lib.hid (show Below w9.heap.size w9 (w9.alloc (.cells #[] 46)) from (Below.refl _ _).alloc (Nat.le_refl _) _)
      clear hx3 hx9 hnS hnC
      go_wp2_with fail
      go_loopw [11, 12] (fun o iv wr => ∃ (k : Nat) (lv : Value), k ≤ nS ∧ iv = .int .i64 k ∧ lv = o ∧ OwnL w9.heap.size 46 3 encS wr lv ((S0.take k).filter (fun x => decide (x.id ≠ id))) ∧ Below w9.heap.size w9 wr) (fun _ iv _ => nS - (intOf iv).toNat)
      case atStart => exact ⟨0, _, by omega, rfl, rfl, OW.out, BO.out⟩
      case round =>
        obtain ⟨k, lv, hk, rfl, rfl, hown, hbl⟩ := hrel
        have OWN := Lib.hid hown
        have HBK := Lib.hid hbl
        clear hown hbl
        by_cases hlt : k < nS
        · have hki : (k : Int) < (nS : Int) := by omega
          have hkS : k < S0.length := by have := HNS.out; omega
          obtain ⟨x, hx⟩ : ∃ x, x = S0[k] := ⟨_, rfl⟩
          obtain ⟨bx, ox, hox, hc⟩ := AT3.out k hkS
          rw [← hx] at hc
          have hc' := fun j u hu => (HBK.out.cell (p := ⟨bx, ox + k * 3 + j, none⟩) (lt_of_cellR (hc j u hu))).trans (hc j u hu)
          have s0 : wr.cell? ⟨bx, ox + k * 3, none⟩ = some (.string x.id) := hc' 0 _ rfl
          have s1 : wr.cell? ⟨bx, ox + k * 3 + 1, none⟩ = some (.string x.va) := hc' 1 _ rfl
          have s2 : wr.cell? ⟨bx, ox + k * 3 + 2, none⟩ = some (.int .u64 (x.dl : Int)) := hc' 2 _ rfl
          have WK := Lib.hid (wrR k (by omega))
          have htk : (S0.take (k + 1)).filter (fun x => decide (x.id ≠ id)) = (S0.take k).filter (fun x => decide (x.id ≠ id)) ++ (if x.id = id then [] else [x]) := by
            rw [List.take_succ_eq_append_getElem hkS, ← hx, List.filter_append]
            congr 1
            by_cases h : x.id = id <;> simp [h]
          have hfl : ((S0.take k).filter (fun x => decide (x.id ≠ id))).length ≤ 40 := Nat.le_trans (List.length_filter_le _ _) (by rw [List.length_take]; omega)
          obtain ⟨R0, hR0⟩ : ∃ x, x = (S0.take k).filter (fun x => decide (x.id ≠ id)) := ⟨_, rfl⟩
          rw [← hR0] at OWN htk hfl
          have HFL := Lib.hid hfl
          subst hox
          clear hc hc' hx hR0 hfl
          by_cases hid : x.id = id
          · rw [if_pos hid, List.append_nil] at htk
            have HTK := Lib.hid htk
            have q0 : (id.toList == id.toList) = true := beq_self_eq_true _
            rw [hid] at s0
            clear htk hid
            go_wp2_with fail
            go_roundw
            case rel => exact ⟨k + 1, _, by omega, by first | rfl | (rw [WK.out]) | go_num, rfl, by rw [HTK.out]; exact OWN.out, HBK.out⟩
            case measure => (try rw [WK.out]); simp only [intOf, Int.toNat_natCast]; omega
          · rw [if_neg hid] at htk
            have HTK := Lib.hid htk
            have q0 := str_ne hid
            have q1 : (x.id.toList == id.toList) = false := beq_eq_false_iff_ne.2 (fun h => by rw [h] at q0; simp at q0)
            have q2 : (x.id = id) = False := eq_false hid
            clear htk hid
            obtain ⟨ii, zz, i1, i2, i3, i4, i5⟩ := ses1_info
            have I1 := Lib.hid i1
            have I2 := Lib.hid i2
            have I3 := Lib.hid i3
            have I4 := Lib.hid i4
            have I5 := Lib.hid i5
            have OWN0 := Lib.hid (OWN.out)
            have BEL0 := Lib.hid (HBK.out)
            have HNW := Lib.hid (heap_alloc_new wr (.cells (#[.string x.id, .string x.va, .int .u64 (x.dl : Int)]) 46))
            clear i1 i2 i3 i4 i5
            go_wp2_with (at_builtin; refine wpList_append_lies _ rfl _ _ 33 rfl w9.heap.size 46 ii zz 3 40 Try.underlying33 I1.out I2.out I3.out I4.out I5.out (by decide) lv R0.length (R0.flatMap encS) rfl ?a10 ⟨wr.heap.size, 0, none⟩ 1 1 (#[.string x.id, .string x.va, .int .u64 (x.dl : Int)] : Array Value).toList rfl rfl ?a11 ?a12 ?a13 ?a14 ?a15 ?a16 _ rfl ?_)
            case a10 => exact World.ownsRow.alloc OWN0.out _
            (try case a11 => exact World.news_of_block HNW.out)
            case a12 => simp [Value.oneCell']
            case a13 => decide
            case a14 => simp only [maxLen]; have := HFL.out; omega
            case a15 => have := HFL.out; omega
            case a16 => have := BEL0.out.size; first | omega | (rw [alloc_sizeR]; omega)
            intro g cap5 w5 hown5 hg hw hlt5
            have hbw : Below w9.heap.size w9 w5 := (BEL0.out.trans ((Below.refl _ _).alloc BEL0.out.size _)).trans (below_grownR hg (fun k hk => (own_geR OWN0.out k hk).1) (by rw [alloc_sizeR]; have := BEL0.out.size; omega))
            have HBW := Lib.hid hbw
            have HOWN5 := Lib.hid hown5
            clear hbw hown5 hg hw hlt5
            clear s0 s1 s2 q0 q1 q2
            go_wp2_with fail
            go_roundw
            case rel => exact ⟨k + 1, _, by omega, by first | rfl | (rw [WK.out]) | go_num, rfl, by rw [HTK.out]; show World.ownsRow _ _ _ _ _ (R0 ++ [_]).length ((R0 ++ [_]).flatMap encS); rw [flat_snoc, List.length_append]; exact HOWN5.out, HBW.out⟩
            case measure => (try rw [WK.out]); simp only [intOf, Int.toNat_natCast]; omega
        · obtain rfl : k = nS := by omega
          rw [List.take_of_length_le (by rw [HNS.out]; exact Nat.le_refl _), HQ.out] at OWN
          obtain ⟨w10, hw10⟩ : ∃ x, x = wr := ⟨_, rfl⟩
          subst hw10
          have LRW := Lib.hid (own_lr (k := 3) (enc := encS) (fun _ => rfl) OWN.out)
          have LV := Lib.hid (Lives_val w10 _ Q (U6.out.below (stepR BT9.out HBK.out) (Nat.le_refl _)) Q40.out)
          obtain ⟨aw, cw, hfw⟩ := LRW.out.form
          subst hfw
          clear hlt
          go_wp2_with fail
          refine LV.out.mono ?_; rintro e w11 ⟨⟨u11, rfl, h1⟩, bb⟩
          have LV2 := Lib.hid (Lives_val w11 _ Q (LRW.out.below bb (Nat.le_refl _)) Q40.out)
          have B11 := Lib.hid bb
          have H11 := Lib.hid h1
          clear h1 bb LV
          go_wp2_with fail
          refine LV2.out.mono ?_; rintro e w12 ⟨⟨u12, rfl, h1⟩, bb⟩
          have sm := Same_val w12 u11 u12 _ _ (H11.out.below bb (Nat.le_refl _)) h1 Q40.out
          rw [decide_eq_true rfl] at sm
          have SM2 := Lib.hid sm
          have B12 := Lib.hid (stepR B11.out bb)
          clear h1 bb sm LV2
          go_wp2_with fail
          refine SM2.out.mono ?_; rintro e w13 ⟨rfl, bb⟩
          have B13 := Lib.hid (stepR B12.out bb)
          have B93 := Lib.hid (stepR HBK.out B13.out)
          have OW2 := Lib.hid (own_new w13 46 3 encS w13.heap.size (Nat.le_refl _))
          have BO2 := Lib.hid (show Below w13.heap.size w13 (w13.alloc (.cells #[] 46)) from (Below.refl _ _).alloc (Nat.le_refl _) _)
          have d1 := D1.out
          have d2 := D2.out
          have d3 := D3.out
          clear bb SM2
          go_wp2_with fail
          clear d1 d2 d3
          go_loopw [13, 14, 15] (fun o f iv wr => ∃ (j : Nat) (lv : Value) (fb : Bool), j ≤ nC ∧ iv = .int .i64 j ∧ lv = o ∧ f = .bool fb ∧ fb = (d || (C.take j).any (fun x => decide (x.id = id))) ∧ OwnL w13.heap.size 46 3 encS wr lv ((C.take j).filter (fun x => decide (x.id ≠ id))) ∧ Below w13.heap.size w13 wr) (fun _ _ iv _ => nC - (intOf iv).toNat)
          case atStart => exact ⟨0, _, d, by omega, rfl, rfl, rfl, by simp, OW2.out, BO2.out⟩
          case round =>
            obtain ⟨j, lv, fb, hj, rfl, rfl, rfl, hfb, hown, hbl⟩ := hrel
            have OWN := Lib.hid hown
            have HBJ := Lib.hid hbl
            have HFB := Lib.hid hfb
            clear hown hbl hfb
            by_cases hlt : j < nC
            · have hki : (j : Int) < (nC : Int) := by omega
              have hjC : j < C.length := by have := HNC.out; omega
              obtain ⟨x, hx⟩ : ∃ x, x = C[j] := ⟨_, rfl⟩
              have hxC : x ∈ C := by rw [hx]; exact List.getElem_mem _
              obtain ⟨bx, ox, hox, hc⟩ := AT9.out j hjC
              rw [← hx] at hc
              have hc' := fun i u hu => ((stepR B93.out HBJ.out).cell (p := ⟨bx, ox + j * 3 + i, none⟩) (lt_of_cellR (hc i u hu))).trans (hc i u hu)
              have s0 : wr.cell? ⟨bx, ox + j * 3, none⟩ = some (.string x.id) := hc' 0 _ rfl
              have s1 : wr.cell? ⟨bx, ox + j * 3 + 1, none⟩ = some (.string x.va) := hc' 1 _ rfl
              have s2 : wr.cell? ⟨bx, ox + j * 3 + 2, none⟩ = some (.int .u64 (x.dl : Int)) := hc' 2 _ rfl
              have WK := Lib.hid (wrR j (by omega))
              have htk : (C.take (j + 1)).filter (fun x => decide (x.id ≠ id)) = (C.take j).filter (fun x => decide (x.id ≠ id)) ++ (if x.id = id then [] else [x]) := by
                rw [List.take_succ_eq_append_getElem hjC, ← hx, List.filter_append]
                congr 1
                by_cases h : x.id = id <;> simp [h]
              have hfa : (C.take (j + 1)).any (fun x => decide (x.id = id)) = ((C.take j).any (fun x => decide (x.id = id)) || decide (x.id = id)) := by
                rw [List.take_succ_eq_append_getElem hjC, ← hx, List.any_append]
                simp
              have hfl : ((C.take j).filter (fun x => decide (x.id ≠ id))).length ≤ 41 := Nat.le_trans (List.length_filter_le _ _) (by rw [List.length_take]; omega)
              obtain ⟨R0, hR0⟩ : ∃ x, x = (C.take j).filter (fun x => decide (x.id ≠ id)) := ⟨_, rfl⟩
              rw [← hR0] at OWN htk hfl
              have HFL := Lib.hid hfl
              subst hox
              clear hc hc' hx hR0 hfl
              by_cases hid : x.id = id
              · rw [if_pos hid, List.append_nil] at htk
                have HTK := Lib.hid htk
                rw [decide_eq_true hid, Bool.or_true] at hfa
                have HFA := Lib.hid hfa
                obtain ⟨hva, hdl⟩ := CI.out x hxC hid
                have q0 : (id.toList == id.toList) = true := beq_self_eq_true _
                rw [hid] at s0
                rw [hva] at s1
                rw [hdl] at s2
                clear htk hid hfa hva hdl hxC
                go_wp2_with fail
                go_roundw
                case rel => exact ⟨j + 1, _, true, by omega, by first | rfl | (rw [WK.out]) | go_num, rfl, rfl, by rw [HFA.out, Bool.or_true], by rw [HTK.out]; exact OWN.out, HBJ.out⟩
                case measure => (try rw [WK.out]); simp only [intOf, Int.toNat_natCast]; omega
              · rw [if_neg hid] at htk
                have HTK := Lib.hid htk
                rw [decide_eq_false hid, Bool.or_false] at hfa
                have HFA := Lib.hid hfa
                have q0 := str_ne hid
                have q1 : (x.id.toList == id.toList) = false := beq_eq_false_iff_ne.2 (fun h => by rw [h] at q0; simp at q0)
                have q2 : (x.id = id) = False := eq_false hid
                clear htk hid hfa hxC
                obtain ⟨ii, zz, i1, i2, i3, i4, i5⟩ := ses1_info
                have I1 := Lib.hid i1
                have I2 := Lib.hid i2
                have I3 := Lib.hid i3
                have I4 := Lib.hid i4
                have I5 := Lib.hid i5
                have OWN0 := Lib.hid (OWN.out)
                have BEL0 := Lib.hid (HBJ.out)
                have HNW := Lib.hid (heap_alloc_new wr (.cells (#[.string x.id, .string x.va, .int .u64 (x.dl : Int)]) 46))
                clear i1 i2 i3 i4 i5
                go_wp2_with (at_builtin; refine wpList_append_lies _ rfl _ _ 33 rfl w13.heap.size 46 ii zz 3 40 Try.underlying33 I1.out I2.out I3.out I4.out I5.out (by decide) lv R0.length (R0.flatMap encS) rfl ?a20 ⟨wr.heap.size, 0, none⟩ 1 1 (#[.string x.id, .string x.va, .int .u64 (x.dl : Int)] : Array Value).toList rfl rfl ?a21 ?a22 ?a23 ?a24 ?a25 ?a26 _ rfl ?_)
                case a20 => exact World.ownsRow.alloc OWN0.out _
                (try case a21 => exact World.news_of_block HNW.out)
                case a22 => simp [Value.oneCell']
                case a23 => decide
                case a24 => simp only [maxLen]; have := HFL.out; omega
                case a25 => have := HFL.out; omega
                case a26 => have := BEL0.out.size; first | omega | (rw [alloc_sizeR]; omega)
                intro g cap5 w5 hown5 hg hw hlt5
                have hbw : Below w13.heap.size w13 w5 := (BEL0.out.trans ((Below.refl _ _).alloc BEL0.out.size _)).trans (below_grownR hg (fun k hk => (own_geR OWN0.out k hk).1) (by rw [alloc_sizeR]; have := BEL0.out.size; omega))
                have HBW := Lib.hid hbw
                have HOWN5 := Lib.hid hown5
                clear hbw hown5 hg hw hlt5
                clear s0 s1 s2 q0 q1 q2
                go_wp2_with fail
                go_roundw
                case rel => exact ⟨j + 1, _, fb, by omega, by first | rfl | (rw [WK.out]) | go_num, rfl, rfl, by rw [HFA.out]; exact HFB.out, by rw [HTK.out]; show World.ownsRow _ _ _ _ _ (R0 ++ [_]).length ((R0 ++ [_]).flatMap encS); rw [flat_snoc, List.length_append]; exact HOWN5.out, HBW.out⟩
                case measure => (try rw [WK.out]); simp only [intOf, Int.toNat_natCast]; omega
            · obtain rfl : j = nC := by omega
              have et : C.take j = C := List.take_of_length_le (by rw [HNC.out]; exact Nat.le_refl _)
              rw [et, CF.out] at OWN
              have hfb := HFB.out
              rw [et] at hfb
              have hfb' : fb = true := by
                rw [hfb]
                by_cases h : now = 18446744073709551615
                · rw [HD.out, decide_eq_true h]; rfl
                · obtain ⟨x, hx, he⟩ := CT.out (by omega)
                  rw [List.any_eq_true.2 ⟨x, hx, decide_eq_true he⟩, Bool.or_true]
              subst hfb'
              obtain ⟨w14, hw14⟩ : ∃ x, x = wr := ⟨_, rfl⟩
              subst hw14
              have LRX := Lib.hid (own_lr (k := 3) (enc := encS) (fun _ => rfl) OWN.out)
              have LV := Lib.hid (Lives_val w14 _ Q LRX.out Q40.out)
              have B14 := Lib.hid (stepR B13.out HBJ.out)
              obtain ⟨ay, cy, hfy⟩ := LRX.out.form
              subst hfy
              clear hlt et hfb
              go_wp2_with fail
              refine LV.out.mono ?_; rintro e w15 ⟨⟨u15, rfl, h1⟩, bb⟩
              have B15 := Lib.hid (stepR B14.out bb)
              have LV2 := Lib.hid (Lives_val w15 _ Q (LRW.out.below B15.out (Nat.le_refl _)) Q40.out)
              have H15 := Lib.hid h1
              clear h1 bb LV
              go_wp2_with fail
              refine LV2.out.mono ?_; rintro e w16 ⟨⟨u16, rfl, h1⟩, bb⟩
              have sm := Same_val w16 u15 u16 _ _ (H15.out.below bb (Nat.le_refl _)) h1 Q40.out
              rw [decide_eq_true rfl] at sm
              have SM3 := Lib.hid sm
              have B16 := Lib.hid (stepR B15.out bb)
              clear h1 bb sm LV2
              go_wp2_with fail
              refine SM3.out.mono ?_; rintro e w17 ⟨rfl, bb⟩
              have BE := Lib.hid (BW3.out.trans ((stepR B9.out (stepR HBK.out (stepR B16.out bb))).mono BW3.out.size))
              clear bb SM3
              go_wp2_with fail
              refine (fixed_val w17).mono ?_; rintro e wz ⟨rfl, bz⟩
              go_wp2_with fail
              go_ret
              exact ⟨rfl, BE.out.trans (bz.mono BE.out.size)⟩
theorem ReplayTomb_walk (v0 : Value) (a1 : ByteArray) (a2 : Int) (w : World) (o0 : Row.Opn Try.prog w 22 v0) (f1 : a1.size ≤ 140737488351232) (f2 : (Lit.int .u64 a2).wf = true) :
    Calls Try.prog 8 #[v0, .string a1, .int .u64 a2] w fun e w' => e = .returned (.bool true) ∧ Below w.heap.size w w' := by
  obtain ⟨l, h1, h2, h3⟩ := open_recs o0
  obtain ⟨y, rfl, hy⟩ := u64_wf a2 f2
  exact tomb_main l v0 a1 y w f1 hy h1 h2 h3
end Go.Proofs.Ytlnhdbbhlcpkbaa.L
