/- The reference's Decode: the whole of it. -/
import Derived.Test.YtieijelbflkpeaaGCkR
namespace Go.Proofs.Ytieijelbflkpeaa.G
open Go.RowKit Go.Proofs.Ytieijelbflkpeaa.CrcPlain Go.Proofs.Ytieijelbflkpeaa.WordPlain Go.Proofs.Ytieijelbflkpeaa.Loose
set_option linter.unusedVariables false
set_option linter.unusedSimpArgs false

def zc6 : Array Value := #[.int .u64 0, .int .u32 0, .int .u64 0, .int .u64 0, .slice none 0 0, .slice none 0 0]

set_option maxRecDepth 100000 in
set_option maxHeartbeats 8000000 in
theorem rDecode_full (s : ByteArray) (w : World) (n : Nat) (hs : s.size = 128) (hn : Hid ((n : Int) = bAt s 28)) (h16 : n ≤ 16) (g ep l v : Nat) (hg : Hid (g = wget s)) (hep : Hid (ep = wget (s.extract 8 12))) (hl : Hid (l = wget (s.extract 12 20))) (hv : Hid (v = wget (s.extract 20 28))) :
    Calls Try.prog 14 #[.string s] w fun e w' => (∃ vo vl, e = .returned (.tuple #[(decC s).val vo vl, .int .i64 (decE s)]) ∧ Sl w' vo (decC s).order ∧ Sl w' vl (decC s).lens) ∧ Below w.heap.size w w' := by
  have q : ((s.size : Int) != 128) = false := by rw [bne, beq_iff_eq.2 (show (s.size : Int) = 128 by omega)]; rfl
  have q2 : ¬ (16 : Int) < (n : Int) := by omega
  have q3 : wrap64 (n : Int) = (n : Int) := IntWalk.wrap64_in _ (by omega)
  have hix : ∀ W : World, (Instr.index 9 (.string s) (.int .i64 28)).run Try.prog W = .ok (.int .u8 (n : Int)) W := fun W => index_byte s 28 n (by omega) hn.out W
  have hzc := zero_rcheck
  have es : ∀ a b : Nat, (s.extract a b).size ≤ 9223372036854775807 := by intro a b; rw [ByteArray.size_extract]; omega
  have f1 := fun W => grows (rGet_val (s.extract 0 8) W g (es _ _) (Lib.hid (hg.out.trans (wget_take s).symm)))
  have f2 := fun W => grows (rGet_val (s.extract 8 12) W ep (es _ _) hep)
  have f3 := fun W => grows (rGet_val (s.extract 12 20) W l (es _ _) hl)
  have f4 := fun W => grows (rGet_val (s.extract 20 28) W v (es _ _) hv)
  have we : IntKind.u32.wrap (ep : Int) = (ep : Int) := IntWalk.u32_in _ (by have := extract_wget_lt s 8 12; have := hep.out; omega)
  have F1 := Lib.hid f1
  have F2 := Lib.hid f2
  have F3 := Lib.hid f3
  have F4 := Lib.hid f4
  have HS := Lib.hid hs
  have hraw : rawCk s = ⟨g, ep, l, v, ordOf s n, lenOf s n⟩ := by
    have e : (bAt s 28).toNat = n := by have := hn.out; omega
    unfold rawCk
    rw [← hg.out, ← hep.out, ← hl.out, ← hv.out, e]
  have HRAW := Lib.hid hraw
  have hkd := rawCk_kind s (by have := hn.out; omega)
  rw [hraw] at hkd
  have HKD := Lib.hid hkd
  have h28 : bAt s 28 ≤ 16 := by have := hn.out; omega
  have H28 := Lib.hid h28
  clear hraw hkd h28 f1 f2 f3 f4 es
  have sz1 : ¬ (s.size : Int) < 8 := by omega
  have sz2 : ¬ (s.size : Int) < 12 := by omega
  have sz3 : ¬ (s.size : Int) < 20 := by omega
  have sz4 : ¬ (s.size : Int) < 28 := by omega
  clear hs
  have hA0 := heap_alloc_new w (.cells #[.int .u64 0, .int .u32 0, .int .u64 0, .int .u64 0, .slice none 0 0, .slice none 0 0] 32)
  have hB0 : Below w.heap.size w _ := (Below.refl w.heap.size w).alloc (Nat.le_refl _) (.cells #[.int .u64 0, .int .u32 0, .int .u64 0, .int .u64 0, .slice none 0 0, .slice none 0 0] 32)
  have hS0 : (w.alloc (.cells #[.int .u64 0, .int .u32 0, .int .u64 0, .int .u64 0, .slice none 0 0, .slice none 0 0] 32)).heap.size = w.heap.size + 1 := by show (w.heap.push _).size = _; rw [Array.size_push]
  have HA0 := Lib.hid hA0
  have HB0 := Lib.hid hB0
  have HS0 := Lib.hid hS0
  clear hA0 hB0 hS0
  go_enter Try.func14, Try.ntmps14
  go_wp2_with fail
  obtain ⟨W0, hW0⟩ : ∃ W, W = w.alloc (.cells #[.int .u64 0, .int .u32 0, .int .u64 0, .int .u64 0, .slice none 0 0, .slice none 0 0] 32) := ⟨_, rfl⟩
  simp only [← hW0] at HA0 HB0 HS0 ⊢
  clear hW0
  refine wp_region_tail [0, 1, 2, 3, 4, 5, 6, 7, 8, 9, 10, 11, 12, 13, 14] 15 1 (by kernel_rfl) (by kernel_rfl) (by kernel_rfl) ?_
  refine wpM_det rfl ?_
  apply Exists.intro
  refine ⟨?_, ?_⟩
  · intro vs w' hC hk
    (try simp [Know.add, depOn, Region.binds] at hk)
    go_simp
    exact ⟨Below.refl _ _, rfl⟩
  refine wpM_det rfl ?_
  apply Exists.intro
  refine ⟨?_, ?_⟩
  · intro vs w' hC hk
    (try simp [Know.add, depOn, Region.binds] at hk)
    go_simp
    exact ⟨Below.refl _ _, rfl⟩
  refine wpM_det rfl ?_
  apply Exists.intro
  refine ⟨?_, ?_⟩
  · intro vs w' hC hk
    (try simp [Know.add, depOn, Region.binds] at hk)
    go_simp
    refine (F1.out _).mono ?_
    rintro e w'' ⟨rfl, hb⟩
    first | exact ⟨rfl, hb⟩ | exact ⟨_, rfl, hb, rfl⟩
  refine wpM_det rfl ?_
  apply Exists.intro
  refine ⟨?_, ?_⟩
  · intro vs w' hC hk
    (try simp [Know.add, depOn, Region.binds] at hk)
    go_simp
    exact ⟨Below.refl _ _, rfl⟩
  refine wpM_det rfl ?_
  apply Exists.intro
  refine ⟨?_, ?_⟩
  · intro vs w' hC hk
    (try simp [Know.add, depOn, Region.binds] at hk)
    go_simp
    exact ⟨Below.refl _ _, rfl⟩
  refine wpM_det rfl ?_
  apply Exists.intro
  refine ⟨?_, ?_⟩
  · intro vs w' hC hk
    (try simp [Know.add, depOn, Region.binds] at hk)
    go_simp
    refine (F2.out _).mono ?_
    rintro e w'' ⟨rfl, hb⟩
    first | exact ⟨rfl, hb⟩ | exact ⟨_, rfl, hb, rfl⟩
  refine wpM_det rfl ?_
  apply Exists.intro
  refine ⟨?_, ?_⟩
  · intro vs w' hC hk
    (try simp [Know.add, depOn, Region.binds] at hk)
    go_simp
    exact ⟨Below.refl _ _, rfl⟩
  refine wpM_det rfl ?_
  apply Exists.intro
  refine ⟨?_, ?_⟩
  · intro vs w' hC hk
    (try simp [Know.add, depOn, Region.binds] at hk)
    go_simp
    exact ⟨Below.refl _ _, rfl⟩
  refine wpM_det rfl ?_
  apply Exists.intro
  refine ⟨?_, ?_⟩
  · intro vs w' hC hk
    (try simp [Know.add, depOn, Region.binds] at hk)
    go_simp
    exact ⟨Below.refl _ _, rfl⟩
  refine wpM_det rfl ?_
  apply Exists.intro
  refine ⟨?_, ?_⟩
  · intro vs w' hC hk
    (try simp [Know.add, depOn, Region.binds] at hk)
    go_simp
    refine (F3.out _).mono ?_
    rintro e w'' ⟨rfl, hb⟩
    first | exact ⟨rfl, hb⟩ | exact ⟨_, rfl, hb, rfl⟩
  refine wpM_det rfl ?_
  apply Exists.intro
  refine ⟨?_, ?_⟩
  · intro vs w' hC hk
    (try simp [Know.add, depOn, Region.binds] at hk)
    go_simp
    exact ⟨Below.refl _ _, rfl⟩
  refine wpM_det rfl ?_
  apply Exists.intro
  refine ⟨?_, ?_⟩
  · intro vs w' hC hk
    (try simp [Know.add, depOn, Region.binds] at hk)
    go_simp
    exact ⟨Below.refl _ _, rfl⟩
  refine wpM_det rfl ?_
  apply Exists.intro
  refine ⟨?_, ?_⟩
  · intro vs w' hC hk
    (try simp [Know.add, depOn, Region.binds] at hk)
    go_simp
    refine (F4.out _).mono ?_
    rintro e w'' ⟨rfl, hb⟩
    first | exact ⟨rfl, hb⟩ | exact ⟨_, rfl, hb, rfl⟩
  refine wpM_det rfl ?_
  apply Exists.intro
  refine ⟨?_, ?_⟩
  · intro vs w' hC hk
    (try simp [Know.add, depOn, Region.binds] at hk)
    go_simp
    exact ⟨Below.refl _ _, rfl⟩
  refine wpM_step rfl (NewPtr 32 #[.int .u64 0, .int .u32 0, .int .u64 0, .int .u64 0, .slice none 0 0, .slice none 0 0] W0.heap.size) (stab_ptr _ _ _) ?_ ?_
  · intro vs w' hC hk
    (try simp [Know.add, depOn, Region.binds] at hk)
    clear hk
    have hsz := hC.size
    go_simp
    exact ⟨(Below.refl _ _).alloc (Nat.le_refl _) _, _, rfl, hsz, heap_alloc_new _ _⟩
  refine wpM_nil ?_
  intro vs w' hC hk
  have h14 : NewPtr 32 #[.int .u64 0, .int .u32 0, .int .u64 0, .int .u64 0, .slice none 0 0, .slice none 0 0] W0.heap.size (vs 14) w' := hk.2 rfl
  have h13 : vs 13 = .agg #[.int .u64 g, .int .u32 ep, .int .u64 l, .int .u64 v, .slice none 0 0, .slice none 0 0] := hk.1.2 rfl
  clear hk
  obtain ⟨C, h14, hCg, hrow⟩ := h14
  have HROW := Lib.hid hrow
  clear hrow
  go_simp
  refine wpAny_one 15 ?_ rfl ?_
  · kernel_rfl
  intro K hK
  rw [if_pos (by rfl)]
  refine wp_store_row 32 _ _ rfl C #[.int .u64 g, .int .u32 ep, .int .u64 l, .int .u64 v, .slice none 0 0, .slice none 0 0] rfl rfl _ _ HROW.out (by kernel_rfl) rfl (by kernel_rfl) ?_
  refine hK _ _ ?_
  clear hK K
  refine wpAny_done (by kernel_rfl) ?_ _
  have hCs := lt_of_row HROW.out
  have hWs := HS0.out
  have hd0 : DJ w (w'.setRow C #[.int .u64 g, .int .u32 ep, .int .u64 l, .int .u64 v, .slice none 0 0, .slice none 0 0]) 32 C w.heap.size (C + 1) (.cells #[.int .u64 0, .int .u32 0, .int .u64 0, .int .u64 0, .slice none 0 0, .slice none 0 0] 32) g ep l v (.slice none 0 0) (.slice none 0 0) (ordOf s 0) (lenOf s 0) := by
    refine ⟨setRow_heap _ _ _ _ _ _ HROW.out, (setRow_other _ _ _ _ (by omega)).trans ((hC.block _ (by omega)).trans HA0.out), ((below_step HB0.out hC).setRow (by omega) _), World.ownsRow_nil _ _ _ _, World.ownsRow_nil _ _ _ _, (fun k hk => by cases hk), by omega, by omega, by omega, by omega, by omega, by show C + 1 ≤ (World.setRow _ _ _).heap.size; simp; omega⟩
  clear hC h13 h14 hCg HROW hCs hWs F1 F2 F3 F4 we q q2 sz1 sz2 sz3 sz4 HA0 HB0 HS0
  go_wp2_with fail
  obtain ⟨i0, i1, i2, i3, i4⟩ := int_info
  have HI1 := Lib.hid i1
  have HI2 := Lib.hid i2
  have HI3 := Lib.hid i3
  have HI4 := Lib.hid i4
  clear i1 i2 i3 i4
  go_loopw [5] (fun i wr => ∃ (k : Nat) (ov lv : Value), k ≤ n ∧ i = .int .i64 k ∧ DJ w wr 32 C w.heap.size (C + 1) (.cells #[.int .u64 0, .int .u32 0, .int .u64 0, .int .u64 0, .slice none 0 0, .slice none 0 0] 32) g ep l v ov lv (ordOf s k) (lenOf s k)) (fun i _ => n - (intOf i).toNat)
  case atStart => exact ⟨0, _, _, by omega, rfl, hd0⟩
  case round =>
    obtain ⟨k, ov, lv, hk, rfl, hd⟩ := hrel
    clear hd0
    by_cases hlt : k < n
    · have hkn : (k : Int) < (n : Int) := by omega
      obtain ⟨x, hx⟩ : ∃ x, x = bAt s (29 + 2 * k) := ⟨_, rfl⟩
      obtain ⟨y, hy⟩ : ∃ y, y = bAt s (29 + 2 * k + 1) := ⟨_, rfl⟩
      have hxr : 0 ≤ x ∧ x < 256 := by rw [hx]; exact bAt_range _ _
      have hyr : 0 ≤ y ∧ y < 256 := by rw [hy]; exact bAt_range _ _
      have a1i : IntKind.i64.wrap (2 * (k : Int)) = 2 * (k : Int) := IntWalk.i64_in _ (by omega)
      have a1 : wrap64 (2 * (k : Int)) = 2 * (k : Int) := IntWalk.wrap64_in _ (by omega)
      have a2i : IntKind.i64.wrap (29 + 2 * (k : Int)) = 29 + 2 * (k : Int) := IntWalk.i64_in _ (by omega)
      have a2 : wrap64 (29 + 2 * (k : Int)) = 29 + 2 * (k : Int) := IntWalk.wrap64_in _ (by omega)
      have a3i : IntKind.i64.wrap (30 + 2 * (k : Int)) = 30 + 2 * (k : Int) := IntWalk.i64_in _ (by omega)
      have a3 : wrap64 (30 + 2 * (k : Int)) = 30 + 2 * (k : Int) := IntWalk.wrap64_in _ (by omega)
      have a4i : IntKind.i64.wrap x = x := IntWalk.i64_in _ (by omega)
      have a4 : wrap64 x = x := IntWalk.wrap64_in _ (by omega)
      have a5i : IntKind.i64.wrap y = y := IntWalk.i64_in _ (by omega)
      have a5 : wrap64 y = y := IntWalk.wrap64_in _ (by omega)
      have ix1 : ∀ W : World, (Instr.index 9 (.string s) (.int .i64 (29 + 2 * (k : Int)))).run Try.prog W = .ok (.int .u8 x) W := fun W => index_byte s (29 + 2 * k) x (by have := HS.out; omega) hx W
      have ix2 : ∀ W : World, (Instr.index 9 (.string s) (.int .i64 (30 + 2 * (k : Int)))).run Try.prog W = .ok (.int .u8 y) W := fun W => index_byte s (30 + 2 * k) y (by have := HS.out; omega) (by rw [show 30 + 2 * k = 29 + 2 * k + 1 from by omega]; exact hy) W
      have HX := Lib.hid hx
      have HY := Lib.hid hy
      have HD := Lib.hid hd
      have r4 : ∀ W, Below wr.heap.size wr W → W.cell? ⟨C, 4, none⟩ = some ov := fun W h => (h.cell (p := ⟨C, 4, none⟩) (lt_of_row hd.c)).trans (cell_of_row _ _ 4 _ _ _ hd.c)
      clear hx hy hxr hyr hd
      go_wp2_with fail
      refine wp_region_tail [0, 1, 2, 3, 4, 5, 6, 7, 8] 9 3 (by kernel_rfl) (by kernel_rfl) (by kernel_rfl) ?_
      refine wpM_det rfl ?_
      apply Exists.intro
      refine ⟨?_, ?_⟩
      · intro vs w' hC hk
        (try simp [Know.add, depOn, Region.binds] at hk)
        go_simp
        exact ⟨Below.refl _ _, rfl⟩
      refine wpM_det rfl ?_
      apply Exists.intro
      refine ⟨?_, ?_⟩
      · intro vs w' hC hk
        (try simp [Know.add, depOn, Region.binds] at hk)
        go_simp
        exact ⟨Below.refl _ _, rfl⟩
      refine wpM_det rfl ?_
      apply Exists.intro
      refine ⟨?_, ?_⟩
      · intro vs w' hC hk
        (try simp [Know.add, depOn, Region.binds] at hk)
        go_simp
        exact ⟨Below.refl _ _, rfl⟩
      refine wpM_det rfl ?_
      apply Exists.intro
      refine ⟨?_, ?_⟩
      · intro vs w' hC hk
        (try simp [Know.add, depOn, Region.binds] at hk)
        go_simp
        exact ⟨Below.refl _ _, rfl⟩
      refine wpM_det rfl ?_
      apply Exists.intro
      refine ⟨?_, ?_⟩
      · intro vs w' hC hk
        (try simp [Know.add, depOn, Region.binds] at hk)
        go_simp
        exact ⟨Below.refl _ _, rfl⟩
      refine wpM_det rfl ?_
      apply Exists.intro
      refine ⟨?_, ?_⟩
      · intro vs w' hC hk
        (try simp [Know.add, depOn, Region.binds] at hk)
        go_simp
        exact ⟨Below.refl _ _, rfl⟩
      refine wpM_det rfl ?_
      apply Exists.intro
      refine ⟨?_, ?_⟩
      · intro vs w' hC hk
        (try simp [Know.add, depOn, Region.binds] at hk)
        go_simp
        exact ⟨Below.refl _ _, rfl⟩
      refine wpM_det rfl ?_
      apply Exists.intro
      refine ⟨?_, ?_⟩
      · intro vs w' hC hk
        (try simp [Know.add, depOn, Region.binds] at hk)
        go_simp
        exact ⟨Below.refl _ _, rfl⟩
      refine wpM_step rfl (NewRow 3 #[.int .i64 x]) (stab_row _ _) ?_ ?_
      · intro vs w' hC hk
        (try simp [Know.add, depOn, Region.binds] at hk)
        go_simp
        exact ⟨(Below.refl _ _).alloc (Nat.le_refl _) _, _, rfl, heap_alloc_new _ _⟩
      refine wpM_nil ?_
      intro vs w' hC hk
      have h8 : NewRow 3 #[.int .i64 x] (vs 8) w' := hk.2 rfl
      have h1 : vs 1 = ov := hk.1.1.1.1.1.1.1.2 rfl
      clear hk r4
      obtain ⟨nb, h8, hnb⟩ := h8
      simp only [List.size_toArray, List.length_cons, List.length_nil, Nat.zero_add] at h8
      have HNB := Lib.hid hnb
      clear hnb
      go_simp
      refine wpAny_one 9 ?_ rfl ?_
      · kernel_rfl
      intro K hK
      rw [if_pos (by rfl)]
      refine wp_append_lies w' (.tmp 39) (.tmp 46) 24 rfl (C + 1) 3 i0 (.int .i64 0) 1 8 Try.underlying24 HI1.out HI2.out HI3.out HI4.out rfl (by decide) ov (ordOf s k).length ((ordOf s k).map (Value.int .i64)) rfl (HD.out.o.kept (grown_below hC) (apart_of (by simp))) ⟨nb, 0, none⟩ 1 1 [.int .i64 x] rfl rfl (World.news_of_block HNB.out) (by simp [Value.oneCell']) (by decide) (by rw [ordOf_length]; simp only [maxLen]; omega) (by rw [ordOf_length]; omega) (by have := hC.size; have := HD.out.Bs; omega) w'.heap.size rfl ?_
      intro b1 cap1 w2 hown hg2 hw2 hlt2
      refine hK _ _ ?_
      clear hK K
      have hd2 := HD.out.pushO hC x b1 cap1 hown hg2 hw2
      have hrC := HD.out.keepC hC hg2 (Or.inl rfl)
      have cC := (cell_of_row _ _ 4 _ _ _ hrC).trans (show _ = some ov from rfl)
      have fC := frozen_of_row _ _ 4 _ _ hrC
      have HD2 := Lib.hid hd2
      clear hd2 hown hg2 hw2 hrC hC HNB h8
      go_simp
      refine wpAny_one 10 ?_ rfl ?_
      · kernel_rfl
      intro K hK
      rw [if_pos (by rfl)]
      go_simp
      refine hK _ _ ?_
      clear hK K
      go_simp
      refine wpAny_one 11 ?_ rfl ?_
      · kernel_rfl
      intro K hK
      rw [if_pos (by rfl)]
      go_simp
      refine hK _ _ ?_
      clear hK K
      refine wpAny_done (by kernel_rfl) ?_ _
      clear cC fC
      have hd2 := HD2.out
      rw [HX.out, ← ordOf_succ] at hd2
      clear HX HD2 HD
      obtain ⟨ov2, hov2⟩ : ∃ u, u = Value.slice (some ⟨b1, 0, none⟩) ((ordOf s k).length + 1) cap1 := ⟨_, rfl⟩
      obtain ⟨wq, hwq⟩ : ∃ u, u = w2.setCell ⟨C, 4, none⟩ (Value.slice (some ⟨b1, 0, none⟩) ((ordOf s k).length + 1) cap1) := ⟨_, rfl⟩
      rw [← hwq, ← hov2] at hd2
      rw [← hwq]
      simp only [← hov2]
      clear hwq hov2
      have HD := Lib.hid hd2
      have r5 : ∀ W, Below wq.heap.size wq W → W.cell? ⟨C, 5, none⟩ = some lv := fun W h => (h.cell (p := ⟨C, 5, none⟩) (lt_of_row hd2.c)).trans (cell_of_row _ _ 5 _ _ _ hd2.c)
      clear hd2
      go_wp2_with fail
      refine wp_region_tail [0, 1, 2, 3, 4, 5, 6, 7, 8] 9 3 (by kernel_rfl) (by kernel_rfl) (by kernel_rfl) ?_
      refine wpM_det rfl ?_
      apply Exists.intro
      refine ⟨?_, ?_⟩
      · intro vs w' hC hk
        (try simp [Know.add, depOn, Region.binds] at hk)
        go_simp
        exact ⟨Below.refl _ _, rfl⟩
      refine wpM_det rfl ?_
      apply Exists.intro
      refine ⟨?_, ?_⟩
      · intro vs w' hC hk
        (try simp [Know.add, depOn, Region.binds] at hk)
        go_simp
        exact ⟨Below.refl _ _, rfl⟩
      refine wpM_det rfl ?_
      apply Exists.intro
      refine ⟨?_, ?_⟩
      · intro vs w' hC hk
        (try simp [Know.add, depOn, Region.binds] at hk)
        go_simp
        exact ⟨Below.refl _ _, rfl⟩
      refine wpM_det rfl ?_
      apply Exists.intro
      refine ⟨?_, ?_⟩
      · intro vs w' hC hk
        (try simp [Know.add, depOn, Region.binds] at hk)
        go_simp
        exact ⟨Below.refl _ _, rfl⟩
      refine wpM_det rfl ?_
      apply Exists.intro
      refine ⟨?_, ?_⟩
      · intro vs w' hC hk
        (try simp [Know.add, depOn, Region.binds] at hk)
        go_simp
        exact ⟨Below.refl _ _, rfl⟩
      refine wpM_det rfl ?_
      apply Exists.intro
      refine ⟨?_, ?_⟩
      · intro vs w' hC hk
        (try simp [Know.add, depOn, Region.binds] at hk)
        go_simp
        exact ⟨Below.refl _ _, rfl⟩
      refine wpM_det rfl ?_
      apply Exists.intro
      refine ⟨?_, ?_⟩
      · intro vs w' hC hk
        (try simp [Know.add, depOn, Region.binds] at hk)
        go_simp
        exact ⟨Below.refl _ _, rfl⟩
      refine wpM_det rfl ?_
      apply Exists.intro
      refine ⟨?_, ?_⟩
      · intro vs w' hC hk
        (try simp [Know.add, depOn, Region.binds] at hk)
        go_simp
        exact ⟨Below.refl _ _, rfl⟩
      refine wpM_step rfl (NewRow 3 #[.int .i64 y]) (stab_row _ _) ?_ ?_
      · intro vs w' hC hk
        (try simp [Know.add, depOn, Region.binds] at hk)
        go_simp
        exact ⟨(Below.refl _ _).alloc (Nat.le_refl _) _, _, rfl, heap_alloc_new _ _⟩
      refine wpM_nil ?_
      intro vs' w' hC hk
      have h8 : NewRow 3 #[.int .i64 y] (vs' 8) w' := hk.2 rfl
      have h1' : vs' 1 = lv := hk.1.1.1.1.1.1.1.2 rfl
      clear hk r5
      obtain ⟨nb, h8, hnb⟩ := h8
      simp only [List.size_toArray, List.length_cons, List.length_nil, Nat.zero_add] at h8
      have HNB := Lib.hid hnb
      clear hnb
      go_simp
      refine wpAny_one 9 ?_ rfl ?_
      · kernel_rfl
      intro K hK
      rw [if_pos (by rfl)]
      refine wp_append_lies w' (.tmp 50) (.tmp 57) 24 rfl (C + 1) 3 i0 (.int .i64 0) 1 8 Try.underlying24 HI1.out HI2.out HI3.out HI4.out rfl (by decide) lv (lenOf s k).length ((lenOf s k).map (Value.int .i64)) rfl (HD.out.l.kept (grown_below hC) (apart_of (by simp))) ⟨nb, 0, none⟩ 1 1 [.int .i64 y] rfl rfl (World.news_of_block HNB.out) (by simp [Value.oneCell']) (by decide) (by rw [lenOf_length]; simp only [maxLen]; omega) (by rw [lenOf_length]; omega) (by have := hC.size; have := HD.out.Bs; omega) w'.heap.size rfl ?_
      intro b2 cap2 w3 hown hg2 hw2 hlt2
      refine hK _ _ ?_
      clear hK K
      have hd2 := HD.out.pushL hC y b2 cap2 hown hg2 hw2
      have hrC := HD.out.keepC hC hg2 (Or.inr rfl)
      have cC := (cell_of_row _ _ 5 _ _ _ hrC).trans (show _ = some lv from rfl)
      have fC := frozen_of_row _ _ 5 _ _ hrC
      rw [HY.out, ← lenOf_succ] at hd2
      have HD2 := Lib.hid hd2
      clear hd2 hown hg2 hw2 hrC hC HNB h8
      go_simp
      refine wpAny_one 10 ?_ rfl ?_
      · kernel_rfl
      intro K hK
      rw [if_pos (by rfl)]
      go_simp
      refine hK _ _ ?_
      clear hK K
      go_simp
      refine wpAny_one 11 ?_ rfl ?_
      · kernel_rfl
      intro K hK
      rw [if_pos (by rfl)]
      go_simp
      refine hK _ _ ?_
      clear hK K
      refine wpAny_done (by kernel_rfl) ?_ _
      clear cC fC
      go_wp2_with fail
      go_roundw
      case rel => exact ⟨k + 1, _, _, by omega, by go_num, HD2.out⟩
      case measure => simp [intOf]; omega
    · obtain rfl : k = n := by omega
      clear hlt
      have c0 := (cell_of_row _ _ 0 _ _ _ hd.c).trans (show _ = some (.int .u64 g) from rfl)
      have c1 := (cell_of_row _ _ 1 _ _ _ hd.c).trans (show _ = some (.int .u32 ep) from rfl)
      have c2 := (cell_of_row _ _ 2 _ _ _ hd.c).trans (show _ = some (.int .u64 l) from rfl)
      have c3 := (cell_of_row _ _ 3 _ _ _ hd.c).trans (show _ = some (.int .u64 v) from rfl)
      have c4 := (cell_of_row _ _ 4 _ _ _ hd.c).trans (show _ = some ov from rfl)
      have c5 := (cell_of_row _ _ 5 _ _ _ hd.c).trans (show _ = some lv from rfl)
      have HD := Lib.hid hd
      clear hd
      go_wp2_with fail
      have so : Sl wr ov (ordOf s k) := Sl.of_own HD.out.o
      have sl : Sl wr lv (lenOf s k) := Sl.of_own HD.out.l
      clear c0 c1 c2 c3 c4 c5
      have hltA := lt_of_row HD.out.a
      have hneA := HD.out.ne'
      have hone : (#[Value.int .u64 g, .int .u32 ep, .int .u64 l, .int .u64 v, ov, lv] : Array Value).all (·.oneCell') = true := by
        obtain ⟨oa1, cap1, e1⟩ := so.form
        obtain ⟨oa2, cap2, e2⟩ := sl.form
        rw [e1, e2]
        simp [Value.oneCell']
      have HONE := Lib.hid hone
      clear hone
      by_cases hR : (rawCk s).Right
      · by_cases hE : (rawCk s).enc = s.data.toList
        · have hok : decOk s := ⟨HS.out, H28.out, hR, hE⟩
          rw [HRAW.out] at hR hE
          have es : s = (Ck.mk g ep l v (ordOf s k) (lenOf s k)).out := by
            unfold Ck.out
            rw [if_pos hR]
            apply ByteArray.ext
            apply Array.ext'
            exact hE.symm
          have HOK := Lib.hid hok
          have enc := rEncode_val ⟨g, ep, l, v, ordOf s k, lenOf s k⟩ ov lv wr HKD.out so sl s 0 (Lib.hid es) (Lib.hid (by unfold Ck.err; rw [if_pos hR]))
          clear es hok hR hE
          refine enc.mono ?_; rintro e wE ⟨rfl, hbE⟩
          clear enc
          have hC2 := (hbE.block _ (lt_of_row HD.out.c)).trans HD.out.c
          have hA2 := (hbE.block _ (lt_of_row HD.out.a)).trans HD.out.a
          have c0 := (cell_of_row _ _ 0 _ _ _ hC2).trans (show _ = some (.int .u64 g) from rfl)
          have c1 := (cell_of_row _ _ 1 _ _ _ hC2).trans (show _ = some (.int .u32 ep) from rfl)
          have c2 := (cell_of_row _ _ 2 _ _ _ hC2).trans (show _ = some (.int .u64 l) from rfl)
          have c3 := (cell_of_row _ _ 3 _ _ _ hC2).trans (show _ = some (.int .u64 v) from rfl)
          have c4 := (cell_of_row _ _ 4 _ _ _ hC2).trans (show _ = some ov from rfl)
          have c5 := (cell_of_row _ _ 5 _ _ _ hC2).trans (show _ = some lv from rfl)
          have HA2 := Lib.hid hA2
          have HA3 := Lib.hid (setRow_heap _ _ _ #[.int .u64 g, .int .u32 ep, .int .u64 l, .int .u64 v, ov, lv] _ _ hA2)
          have q5 : (s.toList != s.toList) = false := by simp
          clear hC2 hA2
          go_wp2_with (refine wpList_store_row rfl 32 _ _ rfl w.heap.size #[.int .u64 g, .int .u32 ep, .int .u64 l, .int .u64 v, ov, lv] rfl rfl _ _ HA2.out (by kernel_rfl) rfl HONE.out ?_)
          have hb1 : Below w.heap.size w (wE.setRow w.heap.size #[.int .u64 g, .int .u32 ep, .int .u64 l, .int .u64 v, ov, lv]) := (below_step HD.out.bel hbE).setRow (Nat.le_refl _) _
          have keep : ∀ (u : Value) (xs : List Value) (m : Nat), wr.ownsRow (C + 1) 3 1 u m xs → (wE.setRow w.heap.size #[.int .u64 g, .int .u32 ep, .int .u64 l, .int .u64 v, ov, lv]).ownsRow (C + 1) 3 1 u m xs := by
            intro u xs m h
            refine (h.kept (grown_below hbE) (apart_of (by simp))).kept (grown_row wE w.heap.size _) (apart_of ?_)
            intro k hk e; have := (own_ge h k hk).1; have e2 : k = w.heap.size := Option.some.inj e; have := HD.out.wC; omega
          have hso := Sl.of_own (keep _ _ _ HD.out.o)
          have hsl := Sl.of_own (keep _ _ _ HD.out.l)
          refine bodyPost_ret (rresults _ w.heap.size _ _ _ _ _ _ 0 _ rfl rfl HA3.out) rfl ?_
          have e1 : decC s = ⟨g, ep, l, v, ordOf s k, lenOf s k⟩ := by unfold decC; rw [if_pos HOK.out, HRAW.out]
          have e2 : decE s = 0 := by unfold decE; rw [if_pos HOK.out]
          rw [e1, e2]
          exact ⟨⟨ov, lv, rfl, hso, hsl⟩, hb1⟩
        · have hno : ¬ decOk s := fun h => hE h.2.2.2
          rw [HRAW.out] at hR hE
          obtain ⟨z, hz⟩ : ∃ z, z = (Ck.mk g ep l v (ordOf s k) (lenOf s k)).out := ⟨_, rfl⟩
          have hne : ¬ z = s := by
            intro h
            have h2 := hz.symm.trans h
            unfold Ck.out at h2
            rw [if_pos hR] at h2
            exact hE (congrArg (fun b : ByteArray => b.data.toList) h2)
          have q1 : (z.toList == s.toList) = false := beq_eq_false_iff_ne.2 (fun h => hne (toList_inj h))
          have q2 : (z.toList != s.toList) = true := by rw [bne, q1]; rfl
          have HNO := Lib.hid hno
          have enc := rEncode_val ⟨g, ep, l, v, ordOf s k, lenOf s k⟩ ov lv wr HKD.out so sl z 0 (Lib.hid hz) (Lib.hid (by unfold Ck.err; rw [if_pos hR]))
          clear hz hno hR hE
          refine enc.mono ?_; rintro e wE ⟨rfl, hbE⟩
          clear enc
          have hA2 := (hbE.block _ (lt_of_row HD.out.a)).trans HD.out.a
          have HA2 := Lib.hid hA2
          have HA3 := Lib.hid (setRow_heap _ _ _ #[.int .u64 0, .int .u32 0, .int .u64 0, .int .u64 0, .slice none 0 0, .slice none 0 0] _ _ hA2)
          clear hA2
          go_wp2_with (refine wpList_store_row rfl 32 _ _ rfl w.heap.size #[.int .u64 0, .int .u32 0, .int .u64 0, .int .u64 0, .slice none 0 0, .slice none 0 0] rfl rfl _ _ HA2.out (by kernel_rfl) rfl (by kernel_rfl) ?_)
          have e1 : decC s = noCk := by unfold decC; rw [if_neg HNO.out]
          have e2 : decE s = 5 := by unfold decE; rw [if_neg HNO.out]
          refine bodyPost_ret (rresults _ w.heap.size _ _ _ _ _ _ 5 _ rfl rfl HA3.out) rfl ?_
          rw [e1, e2]
          exact ⟨⟨.slice none 0 0, .slice none 0 0, rfl, Or.inl ⟨rfl, none, 0, rfl, fun _ => rfl⟩, Or.inl ⟨rfl, none, 0, rfl, fun _ => rfl⟩⟩, (below_step HD.out.bel hbE).setRow (Nat.le_refl _) _⟩
      · have hno : ¬ decOk s := fun h => hR h.2.2.1
        rw [HRAW.out] at hR
        have HNO := Lib.hid hno
        have enc := rEncode_val ⟨g, ep, l, v, ordOf s k, lenOf s k⟩ ov lv wr HKD.out so sl ⟨#[]⟩ 5 (Lib.hid (by unfold Ck.out; rw [if_neg hR])) (Lib.hid (by unfold Ck.err; rw [if_neg hR]))
        clear hno hR
        refine enc.mono ?_; rintro e wE ⟨rfl, hbE⟩
        clear enc
        have hA2 := (hbE.block _ (lt_of_row HD.out.a)).trans HD.out.a
        have HA2 := Lib.hid hA2
        have HA3 := Lib.hid (setRow_heap _ _ _ #[.int .u64 0, .int .u32 0, .int .u64 0, .int .u64 0, .slice none 0 0, .slice none 0 0] _ _ hA2)
        clear hA2
        go_wp2_with (refine wpList_store_row rfl 32 _ _ rfl w.heap.size #[.int .u64 0, .int .u32 0, .int .u64 0, .int .u64 0, .slice none 0 0, .slice none 0 0] rfl rfl _ _ HA2.out (by kernel_rfl) rfl (by kernel_rfl) ?_)
        have e1 : decC s = noCk := by unfold decC; rw [if_neg HNO.out]
        have e2 : decE s = 5 := by unfold decE; rw [if_neg HNO.out]
        refine bodyPost_ret (rresults _ w.heap.size _ _ _ _ _ _ 5 _ rfl rfl HA3.out) rfl ?_
        rw [e1, e2]
        exact ⟨⟨.slice none 0 0, .slice none 0 0, rfl, Or.inl ⟨rfl, none, 0, rfl, fun _ => rfl⟩, Or.inl ⟨rfl, none, 0, rfl, fun _ => rfl⟩⟩, (below_step HD.out.bel hbE).setRow (Nat.le_refl _) _⟩

theorem rDecode_val (s : ByteArray) (w : World) (hmax : s.size ≤ 140737488351232) :
    Calls Try.prog 14 #[.string s] w fun e w' => (∃ vo vl, e = .returned (.tuple #[(decC s).val vo vl, .int .i64 (decE s)]) ∧ Sl w' vo (decC s).order ∧ Sl w' vl (decC s).lens) ∧ Below w.heap.size w w' := by
  by_cases h : s.size ≠ 128 ∨ (s.size = 128 ∧ 16 < bAt s 28)
  · have hno : ¬ decOk s := by
      intro h2
      have := h2.1
      have := h2.2.1
      omega
    have e1 : decC s = noCk := by unfold decC; rw [if_neg hno]
    have e2 : decE s = 5 := by unfold decE; rw [if_neg hno]
    rw [e1, e2]
    refine (rDecode_early s w hmax h).mono ?_
    rintro e w' ⟨rfl, hb⟩
    exact ⟨⟨.slice none 0 0, .slice none 0 0, rfl, Or.inl ⟨rfl, none, 0, rfl, fun _ => rfl⟩, Or.inl ⟨rfl, none, 0, rfl, fun _ => rfl⟩⟩, hb⟩
  · have hb := bAt_range s 28
    exact rDecode_full s w (bAt s 28).toNat (by omega) (Lib.hid (by omega)) (by omega) _ _ _ _ (Lib.hid rfl) (Lib.hid rfl) (Lib.hid rfl) (Lib.hid rfl)
end Go.Proofs.Ytieijelbflkpeaa.G
