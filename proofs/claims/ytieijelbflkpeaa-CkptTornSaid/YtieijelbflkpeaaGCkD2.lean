/- Decode of a sector: the whole of it. -/
import Derived.Test.YtieijelbflkpeaaGCkD
import Derived.Deep.AppendLies
namespace Go.Proofs.Ytieijelbflkpeaa.G
open Go.RowKit Go.Proofs.Ytieijelbflkpeaa.CrcPlain Go.Proofs.Ytieijelbflkpeaa.WordPlain Go.Proofs.Ytieijelbflkpeaa.Loose
set_option linter.unusedVariables false
set_option linter.unusedSimpArgs false

/-- a new row of cells, and nothing else in its block -/
def NewRow (ty : TypeId) (cs : Array Value) (u : Value) (W : World) : Prop := ∃ b, u = .slice (some ⟨b, 0, none⟩) cs.size cs.size ∧ W.heap[b]? = some (.cells cs ty (0, 0))
theorem stab_row (ty : TypeId) (cs : Array Value) : Stab (NewRow ty cs) := by
  rintro v w w' ⟨b, h1, h2⟩ hb
  exact ⟨b, h1, (hb.block b (lt_of_row h2)).trans h2⟩

theorem int_info : ∃ i, Try.prog.info? 3 = some i ∧ i.zero = some (.int .i64 0) ∧ i.size = 1 ∧ i.bytes = 8 := by
  have h : (Try.prog.info? 3).map (fun i => (i.zero, i.size, i.bytes)) = some (some (.int .i64 0), 1, 8) := by kernel_rfl
  cases hq : Try.prog.info? 3 with
  | none => rw [hq] at h; cases h
  | some i => rw [hq] at h; simp at h; exact ⟨i, rfl, h.1, h.2.1, h.2.2⟩

theorem toList_inj {a b : ByteArray} (h : a.toList = b.toList) : a = b := by
  rw [ByteArray.toList_eq, ByteArray.toList_eq] at h
  exact ByteArray.ext (Array.ext' h)

theorem DI.keepC {w wr W1 w2 : World} {g ep l v : Nat} {ov lv : Value} {od ln : List Int} {row : Option Nat} (h : DI w wr g ep l v ov lv od ln) (hb : Below wr.heap.size wr W1) (hg : W1.grownBy w2 row) (hr : row = ov.ownBlock ∨ row = lv.ownBlock) :
    w2.heap[w.heap.size]? = some (.cells #[.int .u64 g, .int .u32 ep, .int .u64 l, .int .u64 v, ov, lv] 26 (0, 0)) := by
  have hsz := hb.size
  have hC := lt_of_row h.c
  refine (hg.block _ (by omega) ?_).trans ((hb.block _ hC).trans h.c)
  intro e
  rcases hr with hr | hr
  · have := (own_ge h.o _ (e.trans hr)).1; omega
  · have := (own_ge h.l _ (e.trans hr)).1; omega

theorem grown_row (w : World) (g : Nat) (cs : Array Value) : w.grownBy (w.setRow g cs) (some g) :=
  ⟨rfl, rfl, rfl, by simp, fun i _ hi => setRow_other _ _ _ _ (fun e => hi (by rw [e]))⟩

def bAt (s : ByteArray) (i : Nat) : Int := ((s.data.toList.getD i 0).toNat : Int)
theorem bAt_range (s : ByteArray) (i : Nat) : 0 ≤ bAt s i ∧ bAt s i < 256 := by
  unfold bAt
  have := (s.data.toList.getD i 0).toNat_lt
  omega
theorem index_byte (s : ByteArray) (i : Nat) (x : Int) (hi : i < s.size) (hx : x = bAt s i) (W : World) : (Instr.index 9 (.string s) (.int .i64 (i : Int))).run Try.prog W = .ok (.int .u8 x) W := by
  have e : x = ((s[i]'hi).toNat : Int) := by
    rw [hx]
    unfold bAt
    rw [List.getD_eq_getElem?_getD, List.getElem?_eq_getElem (by exact hi)]
    rfl
  have h1 : (i : Int) < (s.size : Int) := by omega
  rw [e]
  simp [go_sem, hi, h1]

/-- the numbers that the bytes say -/
def ordOf (s : ByteArray) (n : Nat) : List Int := (List.range n).map fun i => bAt s (29 + 2 * i)
def lenOf (s : ByteArray) (n : Nat) : List Int := (List.range n).map fun i => bAt s (29 + 2 * i + 1)
theorem ordOf_succ (s : ByteArray) (n : Nat) : ordOf s (n + 1) = ordOf s n ++ [bAt s (29 + 2 * n)] := by simp [ordOf, List.range_succ]
theorem lenOf_succ (s : ByteArray) (n : Nat) : lenOf s (n + 1) = lenOf s n ++ [bAt s (29 + 2 * n + 1)] := by simp [lenOf, List.range_succ]
theorem ordOf_length (s : ByteArray) (n : Nat) : (ordOf s n).length = n := by simp [ordOf]
theorem lenOf_length (s : ByteArray) (n : Nat) : (lenOf s n).length = n := by simp [lenOf]

/-- the checkpoint that the bytes say -/
def rawCk (s : ByteArray) : Ck where
  gen := wget s
  ep := wget (s.extract 8 12)
  lsn := wget (s.extract 12 20)
  ver := wget (s.extract 20 28)
  order := ordOf s (bAt s 28).toNat
  lens := lenOf s (bAt s 28).toNat
theorem extract_wget_lt (s : ByteArray) (a b : Nat) : wget (s.extract a b) < 256 ^ (b - a) := by
  unfold wget
  refine Nat.lt_of_lt_of_le (wgl_lt _) (Nat.pow_le_pow_right (by omega) ?_)
  rw [List.length_take]
  have h1 : (s.extract a b).data.toList.length = (s.extract a b).size := rfl
  rw [h1, ByteArray.size_extract]
  omega
theorem rawCk_kind (s : ByteArray) (h16 : bAt s 28 ≤ 16) : (rawCk s).Kind := by
  refine ⟨wget_lt _, extract_wget_lt s 8 12, wget_lt _, wget_lt _, ?_, ?_, ?_, ?_⟩
  · intro x hx
    obtain ⟨i, _, rfl⟩ := List.mem_map.1 hx
    have := bAt_range s (29 + 2 * i)
    omega
  · intro x hx
    obtain ⟨i, _, rfl⟩ := List.mem_map.1 hx
    have := bAt_range s (29 + 2 * i + 1)
    omega
  · show (ordOf _ _).length ≤ _; rw [ordOf_length]; omega
  · show (lenOf _ _).length ≤ _; rw [lenOf_length]; omega

/-- is it a checkpoint's sector? what is decoded; what is wrong -/
def decOk (s : ByteArray) : Prop := s.size = 128 ∧ bAt s 28 ≤ 16 ∧ (rawCk s).Right ∧ (rawCk s).enc = s.data.toList
instance (s : ByteArray) : Decidable (decOk s) := by unfold decOk; infer_instance
def noCk : Ck := ⟨0, 0, 0, 0, [], []⟩
def decC (s : ByteArray) : Ck := if decOk s then rawCk s else noCk
def decE (s : ByteArray) : Int := if decOk s then 0 else 5

set_option maxRecDepth 100000 in
set_option maxHeartbeats 1000000 in
theorem Decode_full (s : ByteArray) (w : World) (n : Nat) (hs : s.size = 128) (hn : Hid ((n : Int) = bAt s 28)) (h16 : n ≤ 16) (g ep l v : Nat) (hg : Hid (g = wget s)) (hep : Hid (ep = wget (s.extract 8 12))) (hl : Hid (l = wget (s.extract 12 20))) (hv : Hid (v = wget (s.extract 20 28))) :
    Calls Try.prog 13 #[.string s] w fun e w' => (∃ vo vl, e = .returned (.tuple #[(decC s).val vo vl, .int .i64 (decE s)]) ∧ Sl w' vo (decC s).order ∧ Sl w' vl (decC s).lens) ∧ Below w.heap.size w w' := by
  have hmf : ∀ (fn : Fn) (first cap : Array Value) (w : World), (Instr.makeFunc fn first cap).run Try.prog w = .ok (.func fn first cap) w := fun _ _ _ _ => rfl
  have q : ((s.size : Int) == 128) = true := beq_iff_eq.2 (by omega)
  have q2 : decide ((n : Int) ≤ 16) = true := decide_eq_true (by omega)
  have q3 : wrap64 (n : Int) = (n : Int) := IntWalk.wrap64_in _ (by omega)
  have hix : ∀ W : World, (Instr.index 9 (.string s) (.int .i64 28)).run Try.prog W = .ok (.int .u8 (n : Int)) W := fun W => index_byte s 28 n (by omega) hn.out W
  have hzc := zero_check
  have f1 := fun W => Get_val s W g hg
  have f2 := fun W => Get_val (s.extract 8 12) W ep hep
  have f3 := fun W => Get_val (s.extract 12 20) W l hl
  have f4 := fun W => Get_val (s.extract 20 28) W v hv
  have we : IntKind.u32.wrap (ep : Int) = (ep : Int) := IntWalk.u32_in _ (by have := extract_wget_lt s 8 12; have := hep.out; omega)
  have F1 := Lib.hid f1
  have F2 := Lib.hid f2
  have F3 := Lib.hid f3
  have F4 := Lib.hid f4
  have HS := Lib.hid hs
  have hraw : rawCk s = ⟨g, ep, l, v, ordOf s n, lenOf s n⟩ := by
    have e : (bAt s 28).toNat = n := by have := hn.out; omega
    unfold rawCk
    rw [← hg.out, ← hep.out, ← hl.out, ← hv.out, e]
  have HRAW := Lib.hid hraw
  have hkd := rawCk_kind s (by have := hn.out; omega)
  rw [hraw] at hkd
  have HKD := Lib.hid hkd
  have h28 : bAt s 28 ≤ 16 := by have := hn.out; omega
  have H28 := Lib.hid h28
  clear hraw hkd h28
  clear f1 f2 f3 f4
  have sz1 : ¬ (s.size : Int) < 8 := by omega
  have sz2 : ¬ (s.size : Int) < 12 := by omega
  have sz3 : ¬ (s.size : Int) < 20 := by omega
  have sz4 : ¬ (s.size : Int) < 28 := by omega
  clear hs
  go_enter_defers Try.func13, Try.ntmps13
  go_wp2_with fail
  refine (must_true _).mono ?_; rintro e w1 ⟨rfl, rfl⟩
  go_wp2_with fail
  refine (must_true _).mono ?_; rintro e w1 ⟨rfl, rfl⟩
  go_wp2_with fail
  obtain ⟨n1, n2, n3, n4⟩ := two_new w (.cells #[.int .u64 0, .int .u32 0, .int .u64 0, .int .u64 0, .slice none 0 0, .slice none 0 0] 26) (.cells #[.int .i64 0] 28)
  obtain ⟨W0, hW0⟩ : ∃ W, W = (w.alloc (.cells #[.int .u64 0, .int .u32 0, .int .u64 0, .int .u64 0, .slice none 0 0, .slice none 0 0] 26)).alloc (.cells #[.int .i64 0] 28) := ⟨_, rfl⟩
  simp only [← hW0] at n1 n2 n3 n4 ⊢
  have N1 := Lib.hid n1
  have N2 := Lib.hid n2
  have N3 := Lib.hid n3
  have N4 := Lib.hid n4
  clear n1 n2 n3 n4 hW0
  refine wp_region_tail [0, 1, 2, 3, 4, 5, 6, 7, 8, 9, 10, 11, 12] 13 1 (by kernel_rfl) (by kernel_rfl) (by kernel_rfl) ?_
  refine wpM_det rfl ?_
  apply Exists.intro
  refine ⟨?_, ?_⟩
  · intro vs w' hC hk
    (try simp [Know.add, depOn, Region.binds] at hk)
    go_simp
    exact ⟨Below.refl _ _, rfl⟩
  refine wpM_det rfl ?_
  apply Exists.intro
  refine ⟨?_, ?_⟩
  · intro vs w' hC hk
    (try simp [Know.add, depOn, Region.binds] at hk)
    go_simp
    refine (F1.out _).mono ?_
    rintro e w'' ⟨rfl, hb⟩
    first | exact ⟨rfl, hb⟩ | exact ⟨_, rfl, hb, rfl⟩
  refine wpM_det rfl ?_
  apply Exists.intro
  refine ⟨?_, ?_⟩
  · intro vs w' hC hk
    (try simp [Know.add, depOn, Region.binds] at hk)
    go_simp
    exact ⟨Below.refl _ _, rfl⟩
  refine wpM_det rfl ?_
  apply Exists.intro
  refine ⟨?_, ?_⟩
  · intro vs w' hC hk
    (try simp [Know.add, depOn, Region.binds] at hk)
    go_simp
    exact ⟨Below.refl _ _, rfl⟩
  refine wpM_det rfl ?_
  apply Exists.intro
  refine ⟨?_, ?_⟩
  · intro vs w' hC hk
    (try simp [Know.add, depOn, Region.binds] at hk)
    go_simp
    refine (F2.out _).mono ?_
    rintro e w'' ⟨rfl, hb⟩
    first | exact ⟨rfl, hb⟩ | exact ⟨_, rfl, hb, rfl⟩
  refine wpM_det rfl ?_
  apply Exists.intro
  refine ⟨?_, ?_⟩
  · intro vs w' hC hk
    (try simp [Know.add, depOn, Region.binds] at hk)
    go_simp
    exact ⟨Below.refl _ _, rfl⟩
  refine wpM_det rfl ?_
  apply Exists.intro
  refine ⟨?_, ?_⟩
  · intro vs w' hC hk
    (try simp [Know.add, depOn, Region.binds] at hk)
    go_simp
    exact ⟨Below.refl _ _, rfl⟩
  refine wpM_det rfl ?_
  apply Exists.intro
  refine ⟨?_, ?_⟩
  · intro vs w' hC hk
    (try simp [Know.add, depOn, Region.binds] at hk)
    go_simp
    exact ⟨Below.refl _ _, rfl⟩
  refine wpM_det rfl ?_
  apply Exists.intro
  refine ⟨?_, ?_⟩
  · intro vs w' hC hk
    (try simp [Know.add, depOn, Region.binds] at hk)
    go_simp
    refine (F3.out _).mono ?_
    rintro e w'' ⟨rfl, hb⟩
    first | exact ⟨rfl, hb⟩ | exact ⟨_, rfl, hb, rfl⟩
  refine wpM_det rfl ?_
  apply Exists.intro
  refine ⟨?_, ?_⟩
  · intro vs w' hC hk
    (try simp [Know.add, depOn, Region.binds] at hk)
    go_simp
    exact ⟨Below.refl _ _, rfl⟩
  refine wpM_det rfl ?_
  apply Exists.intro
  refine ⟨?_, ?_⟩
  · intro vs w' hC hk
    (try simp [Know.add, depOn, Region.binds] at hk)
    go_simp
    exact ⟨Below.refl _ _, rfl⟩
  refine wpM_det rfl ?_
  apply Exists.intro
  refine ⟨?_, ?_⟩
  · intro vs w' hC hk
    (try simp [Know.add, depOn, Region.binds] at hk)
    go_simp
    refine (F4.out _).mono ?_
    rintro e w'' ⟨rfl, hb⟩
    first | exact ⟨rfl, hb⟩ | exact ⟨_, rfl, hb, rfl⟩
  refine wpM_det rfl ?_
  apply Exists.intro
  refine ⟨?_, ?_⟩
  · intro vs w' hC hk
    (try simp [Know.add, depOn, Region.binds] at hk)
    go_simp
    exact ⟨Below.refl _ _, rfl⟩
  refine wpM_nil ?_
  intro vs w' hC hk
  have h12 : vs 12 = .agg #[.int .u64 g, .int .u32 ep, .int .u64 l, .int .u64 v, .slice none 0 0, .slice none 0 0] := hk.2 rfl
  clear hk
  have hrow : w'.heap[w.heap.size]? = some (.cells #[.int .u64 0, .int .u32 0, .int .u64 0, .int .u64 0, .slice none 0 0, .slice none 0 0] 26 (0, 0)) := (hC.block _ (by have := N4.out; omega)).trans N1.out
  go_simp
  refine wpAny_one 13 ?_ rfl ?_
  · kernel_rfl
  intro K hK
  rw [if_pos (by rfl)]
  refine wp_store_row 26 _ _ rfl w.heap.size #[.int .u64 g, .int .u32 ep, .int .u64 l, .int .u64 v, .slice none 0 0, .slice none 0 0] rfl rfl _ _ hrow (by kernel_rfl) rfl (by kernel_rfl) ?_
  refine hK _ _ ?_
  clear hK K
  refine wpAny_done (by kernel_rfl) ?_ _
  have hd0 : DI w (w'.setRow w.heap.size #[.int .u64 g, .int .u32 ep, .int .u64 l, .int .u64 v, .slice none 0 0, .slice none 0 0]) g ep l v (.slice none 0 0) (.slice none 0 0) [] [] := by
    refine ⟨setRow_heap _ _ _ _ _ _ hrow, (setRow_other _ _ _ _ (by omega)).trans ((hC.block _ (by have := N4.out; omega)).trans N2.out), ((below_step N3.out hC).setRow (Nat.le_refl _) _), World.ownsRow_nil _ _ _ _, World.ownsRow_nil _ _ _ _, fun k hk => by cases hk⟩
  clear hrow hC h12
  go_wp2_with fail
  obtain ⟨i0, i1, i2, i3, i4⟩ := int_info
  have HI1 := Lib.hid i1
  have HI2 := Lib.hid i2
  have HI3 := Lib.hid i3
  have HI4 := Lib.hid i4
  clear i1 i2 i3 i4 F1 F2 F3 F4 we hix q q2 sz1 sz2 sz3 sz4 N1 N2 N3 N4 q3
  go_loopw [33] (fun i wr => ∃ (k : Nat) (ov lv : Value), k ≤ n ∧ i = .int .i64 k ∧ DI w wr g ep l v ov lv (ordOf s k) (lenOf s k)) (fun i _ => n - (intOf i).toNat)
  case atStart => exact ⟨0, _, _, by omega, rfl, hd0⟩
  case round =>
    obtain ⟨k, ov, lv, hk, rfl, hd⟩ := hrel
    clear hd0
    by_cases hlt : k < n
    · have hkn : (k : Int) < (n : Int) := by omega
      have hlo : (ordOf s k).length = k := ordOf_length s k
      have hll : (lenOf s k).length = k := lenOf_length s k
      obtain ⟨x, hx⟩ : ∃ x, x = bAt s (29 + 2 * k) := ⟨_, rfl⟩
      obtain ⟨y, hy⟩ : ∃ y, y = bAt s (29 + 2 * k + 1) := ⟨_, rfl⟩
      have hxr : 0 ≤ x ∧ x < 256 := by rw [hx]; exact bAt_range _ _
      have hyr : 0 ≤ y ∧ y < 256 := by rw [hy]; exact bAt_range _ _
      have a1i : IntKind.i64.wrap (2 * (k : Int)) = 2 * (k : Int) := IntWalk.i64_in _ (by omega)
      have a1 : wrap64 (2 * (k : Int)) = 2 * (k : Int) := IntWalk.wrap64_in _ (by omega)
      have a2i : IntKind.i64.wrap (29 + 2 * (k : Int)) = 29 + 2 * (k : Int) := IntWalk.i64_in _ (by omega)
      have a2 : wrap64 (29 + 2 * (k : Int)) = 29 + 2 * (k : Int) := IntWalk.wrap64_in _ (by omega)
      have a3i : IntKind.i64.wrap (29 + 2 * (k : Int) + 1) = 29 + 2 * (k : Int) + 1 := IntWalk.i64_in _ (by omega)
      have a3 : wrap64 (29 + 2 * (k : Int) + 1) = 29 + 2 * (k : Int) + 1 := IntWalk.wrap64_in _ (by omega)
      have a4i : IntKind.i64.wrap (x) = x := IntWalk.i64_in _ (by omega)
      have a4 : wrap64 x = x := IntWalk.wrap64_in _ (by omega)
      have a5i : IntKind.i64.wrap (y) = y := IntWalk.i64_in _ (by omega)
      have a5 : wrap64 y = y := IntWalk.wrap64_in _ (by omega)
      have ix1 : ∀ W : World, (Instr.index 9 (.string s) (.int .i64 (29 + 2 * (k : Int)))).run Try.prog W = .ok (.int .u8 x) W := fun W => index_byte s (29 + 2 * k) x (by have := HS.out; omega) hx W
      have ix2 : ∀ W : World, (Instr.index 9 (.string s) (.int .i64 (29 + 2 * (k : Int) + 1))).run Try.prog W = .ok (.int .u8 y) W := fun W => index_byte s (29 + 2 * k + 1) y (by have := HS.out; omega) hy W
      have HX := Lib.hid hx
      have HY := Lib.hid hy
      have HD := Lib.hid hd
      have r4 : ∀ W, Below wr.heap.size wr W → W.cell? ⟨w.heap.size, 4, none⟩ = some ov := fun W h => (h.cell (p := ⟨w.heap.size, 4, none⟩) (lt_of_row hd.c)).trans (cell_of_row _ _ 4 _ _ _ hd.c)
      clear hx hy hxr hyr hd hlo hll
      go_wp2_with fail
      refine wp_region_tail [0, 1, 2, 3, 4, 5, 6, 7, 8] 9 3 (by kernel_rfl) (by kernel_rfl) (by kernel_rfl) ?_
      refine wpM_det rfl ?_
      apply Exists.intro
      refine ⟨?_, ?_⟩
      · intro vs w' hC hk
        (try simp [Know.add, depOn, Region.binds] at hk)
        go_simp
        exact ⟨Below.refl _ _, rfl⟩
      refine wpM_det rfl ?_
      apply Exists.intro
      refine ⟨?_, ?_⟩
      · intro vs w' hC hk
        (try simp [Know.add, depOn, Region.binds] at hk)
        go_simp
        exact ⟨Below.refl _ _, rfl⟩
      refine wpM_det rfl ?_
      apply Exists.intro
      refine ⟨?_, ?_⟩
      · intro vs w' hC hk
        (try simp [Know.add, depOn, Region.binds] at hk)
        go_simp
        exact ⟨Below.refl _ _, rfl⟩
      refine wpM_det rfl ?_
      apply Exists.intro
      refine ⟨?_, ?_⟩
      · intro vs w' hC hk
        (try simp [Know.add, depOn, Region.binds] at hk)
        go_simp
        exact ⟨Below.refl _ _, rfl⟩
      refine wpM_det rfl ?_
      apply Exists.intro
      refine ⟨?_, ?_⟩
      · intro vs w' hC hk
        (try simp [Know.add, depOn, Region.binds] at hk)
        go_simp
        exact ⟨Below.refl _ _, rfl⟩
      refine wpM_det rfl ?_
      apply Exists.intro
      refine ⟨?_, ?_⟩
      · intro vs w' hC hk
        (try simp [Know.add, depOn, Region.binds] at hk)
        go_simp
        exact ⟨Below.refl _ _, rfl⟩
      refine wpM_det rfl ?_
      apply Exists.intro
      refine ⟨?_, ?_⟩
      · intro vs w' hC hk
        (try simp [Know.add, depOn, Region.binds] at hk)
        go_simp
        exact ⟨Below.refl _ _, rfl⟩
      refine wpM_det rfl ?_
      apply Exists.intro
      refine ⟨?_, ?_⟩
      · intro vs w' hC hk
        (try simp [Know.add, depOn, Region.binds] at hk)
        go_simp
        exact ⟨Below.refl _ _, rfl⟩
      refine wpM_step rfl (NewRow 3 #[.int .i64 x]) (stab_row _ _) ?_ ?_
      · intro vs w' hC hk
        (try simp [Know.add, depOn, Region.binds] at hk)
        go_simp
        exact ⟨(Below.refl _ _).alloc (Nat.le_refl _) _, _, rfl, heap_alloc_new _ _⟩
      refine wpM_nil ?_
      intro vs w' hC hk
      have h8 : NewRow 3 #[.int .i64 x] (vs 8) w' := hk.2 rfl
      have h1 : vs 1 = ov := hk.1.1.1.1.1.1.1.2 rfl
      clear hk r4
      obtain ⟨nb, h8, hnb⟩ := h8
      simp only [List.size_toArray, List.length_cons, List.length_nil, Nat.zero_add] at h8
      have HNB := Lib.hid hnb
      clear hnb
      go_simp
      refine wpAny_one 9 ?_ rfl ?_
      · kernel_rfl
      intro K hK
      rw [if_pos (by rfl)]
      refine wp_append_lies w' (.tmp 37) (.tmp 44) 24 rfl (w.heap.size + 2) 3 i0 (.int .i64 0) 1 8 Try.underlying24 HI1.out HI2.out HI3.out HI4.out rfl (by decide) ov (ordOf s k).length ((ordOf s k).map (Value.int .i64)) rfl (HD.out.o.kept (grown_below hC) (apart_of (by simp))) ⟨nb, 0, none⟩ 1 1 [.int .i64 x] rfl rfl (World.news_of_block HNB.out) (by simp [Value.oneCell']) (by decide) (by rw [ordOf_length]; simp only [maxLen]; omega) (by rw [ordOf_length]; omega) (by have := HD.out.bel.size; have := hC.size; have := lt_of_row HD.out.e; omega) w'.heap.size rfl ?_
      intro b1 cap1 w2 hown hg2 hw2 hlt2
      refine hK _ _ ?_
      clear hK K
      have hd2 := HD.out.pushO hC x b1 cap1 hown hg2 hw2
      have hrC := HD.out.keepC hC hg2 (Or.inl rfl)
      have cC := (cell_of_row _ _ 4 _ _ _ hrC).trans (show _ = some ov from rfl)
      have fC := frozen_of_row _ _ 4 _ _ hrC
      have HD2 := Lib.hid hd2
      clear hd2 hown hg2 hw2 hrC hC HNB h8
      go_simp
      refine wpAny_one 10 ?_ rfl ?_
      · kernel_rfl
      intro K hK
      rw [if_pos (by rfl)]
      go_simp
      refine hK _ _ ?_
      clear hK K
      go_simp
      refine wpAny_one 11 ?_ rfl ?_
      · kernel_rfl
      intro K hK
      rw [if_pos (by rfl)]
      go_simp
      refine hK _ _ ?_
      clear hK K
      refine wpAny_done (by kernel_rfl) ?_ _
      clear cC fC
      have hd2 := HD2.out
      rw [HX.out, ← ordOf_succ] at hd2
      clear HX HD2 HD
      obtain ⟨ov2, hov2⟩ : ∃ u, u = Value.slice (some ⟨b1, 0, none⟩) ((ordOf s k).length + 1) cap1 := ⟨_, rfl⟩
      obtain ⟨wq, hwq⟩ : ∃ u, u = w2.setCell ⟨w.heap.size, 4, none⟩ (Value.slice (some ⟨b1, 0, none⟩) ((ordOf s k).length + 1) cap1) := ⟨_, rfl⟩
      rw [← hwq, ← hov2] at hd2
      rw [← hwq]
      simp only [← hov2]
      clear hwq hov2
      have HD := Lib.hid hd2
      have r5 : ∀ W, Below wq.heap.size wq W → W.cell? ⟨w.heap.size, 5, none⟩ = some lv := fun W h => (h.cell (p := ⟨w.heap.size, 5, none⟩) (lt_of_row hd2.c)).trans (cell_of_row _ _ 5 _ _ _ hd2.c)
      clear hd2
      go_wp2_with fail
      refine wp_region_tail [0, 1, 2, 3, 4, 5, 6, 7, 8, 9] 10 3 (by kernel_rfl) (by kernel_rfl) (by kernel_rfl) ?_
      refine wpM_det rfl ?_
      apply Exists.intro
      refine ⟨?_, ?_⟩
      · intro vs w' hC hk
        (try simp [Know.add, depOn, Region.binds] at hk)
        go_simp
        exact ⟨Below.refl _ _, rfl⟩
      refine wpM_det rfl ?_
      apply Exists.intro
      refine ⟨?_, ?_⟩
      · intro vs w' hC hk
        (try simp [Know.add, depOn, Region.binds] at hk)
        go_simp
        exact ⟨Below.refl _ _, rfl⟩
      refine wpM_det rfl ?_
      apply Exists.intro
      refine ⟨?_, ?_⟩
      · intro vs w' hC hk
        (try simp [Know.add, depOn, Region.binds] at hk)
        go_simp
        exact ⟨Below.refl _ _, rfl⟩
      refine wpM_det rfl ?_
      apply Exists.intro
      refine ⟨?_, ?_⟩
      · intro vs w' hC hk
        (try simp [Know.add, depOn, Region.binds] at hk)
        go_simp
        exact ⟨Below.refl _ _, rfl⟩
      refine wpM_det rfl ?_
      apply Exists.intro
      refine ⟨?_, ?_⟩
      · intro vs w' hC hk
        (try simp [Know.add, depOn, Region.binds] at hk)
        go_simp
        exact ⟨Below.refl _ _, rfl⟩
      refine wpM_det rfl ?_
      apply Exists.intro
      refine ⟨?_, ?_⟩
      · intro vs w' hC hk
        (try simp [Know.add, depOn, Region.binds] at hk)
        go_simp
        exact ⟨Below.refl _ _, rfl⟩
      refine wpM_det rfl ?_
      apply Exists.intro
      refine ⟨?_, ?_⟩
      · intro vs w' hC hk
        (try simp [Know.add, depOn, Region.binds] at hk)
        go_simp
        exact ⟨Below.refl _ _, rfl⟩
      refine wpM_det rfl ?_
      apply Exists.intro
      refine ⟨?_, ?_⟩
      · intro vs w' hC hk
        (try simp [Know.add, depOn, Region.binds] at hk)
        go_simp
        exact ⟨Below.refl _ _, rfl⟩
      refine wpM_det rfl ?_
      apply Exists.intro
      refine ⟨?_, ?_⟩
      · intro vs w' hC hk
        (try simp [Know.add, depOn, Region.binds] at hk)
        go_simp
        exact ⟨Below.refl _ _, rfl⟩
      refine wpM_step rfl (NewRow 3 #[.int .i64 y]) (stab_row _ _) ?_ ?_
      · intro vs w' hC hk
        (try simp [Know.add, depOn, Region.binds] at hk)
        go_simp
        exact ⟨(Below.refl _ _).alloc (Nat.le_refl _) _, _, rfl, heap_alloc_new _ _⟩
      refine wpM_nil ?_
      intro vs' w' hC hk
      have h8 : NewRow 3 #[.int .i64 y] (vs' 9) w' := hk.2 rfl
      have h1' : vs' 1 = lv := hk.1.1.1.1.1.1.1.1.2 rfl
      clear hk r5
      obtain ⟨nb, h8, hnb⟩ := h8
      simp only [List.size_toArray, List.length_cons, List.length_nil, Nat.zero_add] at h8
      have HNB := Lib.hid hnb
      clear hnb
      go_simp
      refine wpAny_one 10 ?_ rfl ?_
      · kernel_rfl
      intro K hK
      rw [if_pos (by rfl)]
      refine wp_append_lies w' (.tmp 48) (.tmp 56) 24 rfl (w.heap.size + 2) 3 i0 (.int .i64 0) 1 8 Try.underlying24 HI1.out HI2.out HI3.out HI4.out rfl (by decide) lv (lenOf s k).length ((lenOf s k).map (Value.int .i64)) rfl (HD.out.l.kept (grown_below hC) (apart_of (by simp))) ⟨nb, 0, none⟩ 1 1 [.int .i64 y] rfl rfl (World.news_of_block HNB.out) (by simp [Value.oneCell']) (by decide) (by rw [lenOf_length]; simp only [maxLen]; omega) (by rw [lenOf_length]; omega) (by have := HD.out.bel.size; have := hC.size; have := lt_of_row HD.out.e; omega) w'.heap.size rfl ?_
      intro b2 cap2 w3 hown hg2 hw2 hlt2
      refine hK _ _ ?_
      clear hK K
      have hd2 := HD.out.pushL hC y b2 cap2 hown hg2 hw2
      have hrC := HD.out.keepC hC hg2 (Or.inr rfl)
      have cC := (cell_of_row _ _ 5 _ _ _ hrC).trans (show _ = some lv from rfl)
      have fC := frozen_of_row _ _ 5 _ _ hrC
      rw [HY.out, ← lenOf_succ] at hd2
      have HD2 := Lib.hid hd2
      clear hd2 hown hg2 hw2 hrC hC HNB h8
      go_simp
      refine wpAny_one 11 ?_ rfl ?_
      · kernel_rfl
      intro K hK
      rw [if_pos (by rfl)]
      go_simp
      refine hK _ _ ?_
      clear hK K
      go_simp
      refine wpAny_one 12 ?_ rfl ?_
      · kernel_rfl
      intro K hK
      rw [if_pos (by rfl)]
      go_simp
      refine hK _ _ ?_
      clear hK K
      refine wpAny_done (by kernel_rfl) ?_ _
      clear cC fC
      go_wp2_with fail
      go_roundw
      case rel => exact ⟨k + 1, _, _, by omega, by go_num, HD2.out⟩
      case measure => simp [intOf]; omega
    · obtain rfl : k = n := by omega
      clear hlt
      have c0 := (cell_of_row _ _ 0 _ _ _ hd.c).trans (show _ = some (.int .u64 g) from rfl)
      have c1 := (cell_of_row _ _ 1 _ _ _ hd.c).trans (show _ = some (.int .u32 ep) from rfl)
      have c2 := (cell_of_row _ _ 2 _ _ _ hd.c).trans (show _ = some (.int .u64 l) from rfl)
      have c3 := (cell_of_row _ _ 3 _ _ _ hd.c).trans (show _ = some (.int .u64 v) from rfl)
      have c4 := (cell_of_row _ _ 4 _ _ _ hd.c).trans (show _ = some ov from rfl)
      have c5 := (cell_of_row _ _ 5 _ _ _ hd.c).trans (show _ = some lv from rfl)
      have HD := Lib.hid hd
      clear hd
      go_wp2_with fail
      have so : Sl wr ov (ordOf s k) := Sl.of_own HD.out.o
      have sl : Sl wr lv (lenOf s k) := Sl.of_own HD.out.l
      clear c0 c1 c2 c3 c4 c5
      have hlt := lt_of_row HD.out.e
      by_cases hR : (rawCk s).Right
      · by_cases hE : (rawCk s).enc = s.data.toList
        · have hok : decOk s := ⟨HS.out, H28.out, hR, hE⟩
          rw [HRAW.out] at hR hE
          have es : s = (Ck.mk g ep l v (ordOf s k) (lenOf s k)).out := by
            unfold Ck.out
            rw [if_pos hR]
            apply ByteArray.ext
            apply Array.ext'
            exact hE.symm
          have HOK := Lib.hid hok
          have enc := Encode_val ⟨g, ep, l, v, ordOf s k, lenOf s k⟩ ov lv wr HKD.out so sl s 0 (Lib.hid es) (Lib.hid (by unfold Ck.err; rw [if_pos hR]))
          clear es hok hR hE
          refine enc.mono ?_; rintro e wE ⟨rfl, hbE⟩
          clear enc
          have hC2 := (hbE.block _ (lt_of_row HD.out.c)).trans HD.out.c
          have hE2 := (hbE.block _ (lt_of_row HD.out.e)).trans HD.out.e
          have c0 := (cell_of_row _ _ 0 _ _ _ hC2).trans (show _ = some (.int .u64 g) from rfl)
          have c1 := (cell_of_row _ _ 1 _ _ _ hC2).trans (show _ = some (.int .u32 ep) from rfl)
          have c2 := (cell_of_row _ _ 2 _ _ _ hC2).trans (show _ = some (.int .u64 l) from rfl)
          have c3 := (cell_of_row _ _ 3 _ _ _ hC2).trans (show _ = some (.int .u64 v) from rfl)
          have c4 := (cell_of_row _ _ 4 _ _ _ hC2).trans (show _ = some ov from rfl)
          have c5 := (cell_of_row _ _ 5 _ _ _ hC2).trans (show _ = some lv from rfl)
          have HC2 := Lib.hid hC2
          have HE2 := Lib.hid hE2
          clear hC2 hE2
          go_wp2_with fail
          refine (must_true _).mono ?_; rintro e w1 ⟨rfl, rfl⟩
          have hE3 : (wE.setRow w.heap.size #[.int .u64 g, .int .u32 ep, .int .u64 l, .int .u64 v, ov, lv]).heap[w.heap.size + 1]? = some (.cells #[.int .i64 0] 28 (0, 0)) := (setRow_other _ _ _ _ (by omega)).trans HE2.out
          have cE := (cell_of_row _ _ 0 _ _ _ hE3).trans (show _ = some (.int .i64 0) from rfl)
          have fE := frozen_of_row _ _ 0 _ _ hE3
          have hC3 : (wE.setRow w.heap.size #[.int .u64 g, .int .u32 ep, .int .u64 l, .int .u64 v, ov, lv]).heap[w.heap.size]? = some (.cells #[.int .u64 g, .int .u32 ep, .int .u64 l, .int .u64 v, ov, lv] 26 (0, 0)) := setRow_heap _ _ _ _ _ _ HC2.out
          have hone : (#[Value.int .u64 g, .int .u32 ep, .int .u64 l, .int .u64 v, ov, lv] : Array Value).all (·.oneCell') = true := by
            obtain ⟨oa1, cap1, e1⟩ := so.form
            obtain ⟨oa2, cap2, e2⟩ := sl.form
            rw [e1, e2]
            simp [Value.oneCell']
          have HONE := Lib.hid hone
          clear hone
          have HE3 := Lib.hid hE3
          have HC3 := Lib.hid hC3
          clear hE3 hC3
          go_wp2_with (refine wpList_store_row rfl 26 _ _ rfl w.heap.size #[.int .u64 g, .int .u32 ep, .int .u64 l, .int .u64 v, ov, lv] rfl rfl _ _ HC2.out (by kernel_rfl) rfl HONE.out ?_)
          have hb1 : Below w.heap.size w (wE.setRow w.heap.size #[.int .u64 g, .int .u32 ep, .int .u64 l, .int .u64 v, ov, lv]) := (below_step HD.out.bel hbE).setRow (Nat.le_refl _) _
          have keep : ∀ (u : Value) (xs : List Value) (m : Nat), wr.ownsRow (w.heap.size + 2) 3 1 u m xs → (((wE.setRow w.heap.size #[.int .u64 g, .int .u32 ep, .int .u64 l, .int .u64 v, ov, lv]).setCell ⟨w.heap.size + 1, 0, none⟩ (.int .i64 0)).alloc (.cells #[] 61)).ownsRow (w.heap.size + 2) 3 1 u m xs := by
            intro u xs m h
            refine ((((h.kept (grown_below hbE) (apart_of (by simp))).kept (grown_row wE w.heap.size _) (apart_of ?_)).kept (grown_set _ _ _) (apart_of ?_))).alloc _
            · intro k hk e; have := (own_ge h k hk).1; have e2 : k = w.heap.size := Option.some.inj e; omega
            · intro k hk e; have := (own_ge h k hk).1; have e2 : k = w.heap.size + 1 := Option.some.inj e; omega
          have hso := Sl.of_own (keep _ _ _ HD.out.o)
          have hsl := Sl.of_own (keep _ _ _ HD.out.l)
          refine door_right _ w.heap.size (w.heap.size + 1) (.int .u64 g) (.int .u32 ep) (.int .u64 l) (.int .u64 v) ov lv 0 w _ _ rfl rfl ?_ ?_ ?_
          · rw [heap_setCell_other _ _ _ _ (by show w.heap.size ≠ w.heap.size + 1; omega)]; exact HC3.out
          · rw [heap_setCell_same _ _ _ _ _ _ HE3.out]; rfl
          · have e1 : decC s = ⟨g, ep, l, v, ordOf s k, lenOf s k⟩ := by unfold decC; rw [if_pos HOK.out, HRAW.out]
            have e2 : decE s = 0 := by unfold decE; rw [if_pos HOK.out]
            rw [e1, e2]
            exact ⟨⟨ov, lv, rfl, hso, hsl⟩, (hb1.setCell (by show w.heap.size ≤ w.heap.size + 1; omega) _).alloc (by have := hb1.size; show w.heap.size ≤ (World.setCell _ _ _).heap.size; simp; simpa using this) _⟩
        · have hno : ¬ decOk s := fun h => hE h.2.2.2
          rw [HRAW.out] at hR hE
          obtain ⟨z, hz⟩ : ∃ z, z = (Ck.mk g ep l v (ordOf s k) (lenOf s k)).out := ⟨_, rfl⟩
          have hne : ¬ z = s := by
            intro h
            have h2 := hz.symm.trans h
            unfold Ck.out at h2
            rw [if_pos hR] at h2
            exact hE (congrArg (fun b : ByteArray => b.data.toList) h2)
          have q1 : (z.toList == s.toList) = false := beq_eq_false_iff_ne.2 (fun h => hne (toList_inj h))
          have HNO := Lib.hid hno
          have enc := Encode_val ⟨g, ep, l, v, ordOf s k, lenOf s k⟩ ov lv wr HKD.out so sl z 0 (Lib.hid hz) (Lib.hid (by unfold Ck.err; rw [if_pos hR]))
          clear hz hno hR hE
          refine enc.mono ?_; rintro e wE ⟨rfl, hbE⟩
          clear enc
          have hC2 := (hbE.block _ (lt_of_row HD.out.c)).trans HD.out.c
          have hE2 := (hbE.block _ (lt_of_row HD.out.e)).trans HD.out.e
          have HC2 := Lib.hid hC2
          have HE2 := Lib.hid hE2
          clear hC2 hE2
          go_wp2_with fail
          refine (must_false _).mono ?_; rintro e w1 ⟨rfl, rfl⟩
          go_wp2_with fail
          have e1 : decC s = noCk := by unfold decC; rw [if_neg HNO.out]
          have e2 : decE s = 5 := by unfold decE; rw [if_neg HNO.out]
          refine door_wrong _ w.heap.size (w.heap.size + 1) _ _ _ _ _ _ _ w _ rfl rfl (by omega) HC2.out HE2.out (by omega) (by omega) (below_step HD.out.bel hbE) _ (fun _ h => ?_)
          rw [e1, e2]
          exact ⟨⟨.slice none 0 0, .slice none 0 0, rfl, Or.inl ⟨rfl, none, 0, rfl, fun _ => rfl⟩, Or.inl ⟨rfl, none, 0, rfl, fun _ => rfl⟩⟩, h⟩
      · have hno : ¬ decOk s := fun h => hR h.2.2.1
        rw [HRAW.out] at hR
        have HNO := Lib.hid hno
        have enc := Encode_val ⟨g, ep, l, v, ordOf s k, lenOf s k⟩ ov lv wr HKD.out so sl ⟨#[]⟩ 5 (Lib.hid (by unfold Ck.out; rw [if_neg hR])) (Lib.hid (by unfold Ck.err; rw [if_neg hR]))
        clear hno hR
        refine enc.mono ?_; rintro e wE ⟨rfl, hbE⟩
        clear enc
        have hC2 := (hbE.block _ (lt_of_row HD.out.c)).trans HD.out.c
        have hE2 := (hbE.block _ (lt_of_row HD.out.e)).trans HD.out.e
        have HC2 := Lib.hid hC2
        have HE2 := Lib.hid hE2
        clear hC2 hE2
        go_wp2_with fail
        refine (must_false _).mono ?_; rintro e w1 ⟨rfl, rfl⟩
        go_wp2_with fail
        have e1 : decC s = noCk := by unfold decC; rw [if_neg HNO.out]
        have e2 : decE s = 5 := by unfold decE; rw [if_neg HNO.out]
        refine door_wrong _ w.heap.size (w.heap.size + 1) _ _ _ _ _ _ _ w _ rfl rfl (by omega) HC2.out HE2.out (by omega) (by omega) (below_step HD.out.bel hbE) _ (fun _ h => ?_)
        rw [e1, e2]
        exact ⟨⟨.slice none 0 0, .slice none 0 0, rfl, Or.inl ⟨rfl, none, 0, rfl, fun _ => rfl⟩, Or.inl ⟨rfl, none, 0, rfl, fun _ => rfl⟩⟩, h⟩

theorem Decode_val (s : ByteArray) (w : World) :
    Calls Try.prog 13 #[.string s] w fun e w' => (∃ vo vl, e = .returned (.tuple #[(decC s).val vo vl, .int .i64 (decE s)]) ∧ Sl w' vo (decC s).order ∧ Sl w' vl (decC s).lens) ∧ Below w.heap.size w w' := by
  have not_ : ∀ (h : ¬ decOk s) (hc : Calls Try.prog 13 #[.string s] w fun e w' => e = .returned (.tuple #[.agg #[.int .u64 0, .int .u32 0, .int .u64 0, .int .u64 0, .slice none 0 0, .slice none 0 0], .int .i64 5]) ∧ Below w.heap.size w w'),
      Calls Try.prog 13 #[.string s] w fun e w' => (∃ vo vl, e = .returned (.tuple #[(decC s).val vo vl, .int .i64 (decE s)]) ∧ Sl w' vo (decC s).order ∧ Sl w' vl (decC s).lens) ∧ Below w.heap.size w w' := by
    intro h hc
    have e1 : decC s = noCk := by unfold decC; rw [if_neg h]
    have e2 : decE s = 5 := by unfold decE; rw [if_neg h]
    rw [e1, e2]
    refine hc.mono ?_
    rintro e w' ⟨rfl, hb⟩
    exact ⟨⟨.slice none 0 0, .slice none 0 0, rfl, Or.inl ⟨rfl, none, 0, rfl, fun _ => rfl⟩, Or.inl ⟨rfl, none, 0, rfl, fun _ => rfl⟩⟩, hb⟩
  by_cases h : s.size = 128
  · have hb := bAt_range s 28
    by_cases h16 : bAt s 28 ≤ 16
    · exact Decode_full s w (bAt s 28).toNat h (Lib.hid (by omega)) (by omega) _ _ _ _ (Lib.hid rfl) (Lib.hid rfl) (Lib.hid rfl) (Lib.hid rfl)
    · have e : bAt s 28 = ((s[28]'(by omega)).toNat : Int) := by
        unfold bAt
        rw [List.getD_eq_getElem?_getD, List.getElem?_eq_getElem (by show 28 < s.size; omega)]
        rfl
      exact not_ (fun h2 => h16 h2.2.1) (Decode_many s w _ h (Lib.hid rfl) (by omega))
  · exact not_ (fun h2 => h h2.1) (Decode_short s w h)
end Go.Proofs.Ytieijelbflkpeaa.G
