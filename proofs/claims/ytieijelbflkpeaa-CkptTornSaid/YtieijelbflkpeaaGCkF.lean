/- The reference's Encode. -/
import Derived.Test.YtieijelbflkpeaaGCkE
import Derived.Test.YtieijelbflkpeaaGCkr
import Derived.Test.YtieijelbflkpeaaGLoose
namespace Go.Proofs.Ytieijelbflkpeaa.G
open Go.RowKit Go.Proofs.Ytieijelbflkpeaa.CrcPlain Go.Proofs.Ytieijelbflkpeaa.WordPlain Go.Proofs.Ytieijelbflkpeaa.Loose
set_option linter.unusedVariables false
set_option linter.unusedSimpArgs false

theorem conv_new {ty : TypeId} (W : World) (b : Nat) (l : List UInt8) (h : W.heap[b]? = some (.cells ((l.map fun (c : UInt8) => Value.int .u8 (c.toNat : Int))).toArray ty (0, 0))) :
    (convert 59 9 (.slice (some ⟨b, 0, none⟩) l.length l.length)).run Try.prog W = .ok (.string ⟨l.toArray⟩) W := by
  have hat : BytesAt W b ⟨l.toArray⟩ := by
    refine ⟨fun j hj => ?_, fun j hj => frozen_of_row _ _ j _ _ h⟩
    rw [cell_of_row _ _ j _ _ _ h]
    have hj' : j < l.length := hj
    simp [hj']
    rfl
  have := bytes_back (P := Try.prog) hat 59 9 5 l.length Try.underlying59 Try.underlying5 Try.underlying9
  exact this

set_option maxRecDepth 100000 in
set_option maxHeartbeats 4000000 in
theorem rEncode_right (g ep l v : Nat) (od ln : List Int) (b off cap b' off' cap' : Nat) (w : World) (hk : (Ck.mk g ep l v od ln).Kind) (h : (Ck.mk g ep l v od ln).Right)
    (hc1 : ∀ i (h : i < od.length), w.cell? ⟨b, off + i, none⟩ = some (.int .i64 od[i])) (hc2 : ∀ i (h : i < ln.length), w.cell? ⟨b', off' + i, none⟩ = some (.int .i64 ln[i]))
    (ho : Sl w (.slice (some ⟨b, off, none⟩) od.length cap) od) (hl : Sl w (.slice (some ⟨b', off', none⟩) ln.length cap') ln) (z : ByteArray) (hz : Hid (z.data.toList = (Ck.mk g ep l v od ln).enc)) :
    Calls Try.prog 11 #[.agg #[.int .u64 g, .int .u32 ep, .int .u64 l, .int .u64 v, .slice (some ⟨b, off, none⟩) od.length cap, .slice (some ⟨b', off', none⟩) ln.length cap']] w fun e w' => e = .returned (.tuple #[.string z, .int .i64 0]) ∧ Below w.heap.size w w' := by
  have hr := fun (W : World) (a : Sl W (.slice (some ⟨b, off, none⟩) od.length cap) od) (b : Sl W (.slice (some ⟨b', off', none⟩) ln.length cap') ln) => rRight_val (Ck.mk g ep l v od ln) _ _ W hk a b true (Lib.hid (decide_eq_true h).symm)
  obtain ⟨hg, hep, hlsn, hver, _, _, _, _⟩ := hk
  obtain ⟨_, _, hne, h16, hlen, hor, hlr, _⟩ := h
  simp only [] at hg hep hlsn hver hne h16 hlen hor hlr
  obtain ⟨n, hn⟩ : ∃ n, n = od.length := ⟨_, rfl⟩
  have hn2 : ln.length = n := by omega
  have hn16 : n ≤ 16 := by omega
  obtain ⟨c, hc⟩ : ∃ c, c = Ck.mk g ep l v od ln := ⟨_, rfl⟩
  obtain ⟨p1, hp1⟩ : ∃ p, p = wput g 8 := ⟨_, rfl⟩
  obtain ⟨p2, hp2⟩ : ∃ p, p = wput ep 4 := ⟨_, rfl⟩
  obtain ⟨p3, hp3⟩ : ∃ p, p = wput l 8 := ⟨_, rfl⟩
  obtain ⟨p4, hp4⟩ : ∃ p, p = wput v 8 := ⟨_, rfl⟩
  have s1 : p1.size = 8 := by rw [hp1, wput_size]
  have s2 : p2.size = 4 := by rw [hp2, wput_size]
  have s3 : p3.size = 8 := by rw [hp3, wput_size]
  have s4 : p4.size = 8 := by rw [hp4, wput_size]
  have f1 := fun W => rPut_val g 8 W p1 hg (Lib.hid (by rw [hp1]; rfl))
  have f2 := fun W => rPut_val ep 4 W p2 (by omega) (Lib.hid (by rw [hp2]; rfl))
  have f3 := fun W => rPut_val l 8 W p3 hlsn (Lib.hid (by rw [hp3]; rfl))
  have f4 := fun W => rPut_val v 8 W p4 hver (Lib.hid (by rw [hp4]; rfl))
  have F1 := Lib.hid f1
  have F2 := Lib.hid f2
  have F3 := Lib.hid f3
  have F4 := Lib.hid f4
  have HR := Lib.hid hr
  have HO := Lib.hid ho
  have HL := Lib.hid hl
  have key := fun k (h : k ≤ n) => (Ck.mk g ep l v od ln).pairs_length hlen k (by show k ≤ od.length; omega)
  have hbl := (Ck.mk g ep l v od ln).body_length hlen h16
  rw [← hc] at key hbl hz
  have KEY := Lib.hid key
  have HBL := Lib.hid hbl
  have C1 := Lib.hid hc1
  have C2 := Lib.hid hc2
  have HC := Lib.hid hc
  have HOR := Lib.hid hor
  have HLR := Lib.hid hlr
  have HNN := Lib.hid hn
  have HN2 := Lib.hid hn2
  have D1 := Lib.hid (show p1.data.toList = wl g 8 by rw [hp1, wput_data])
  have D2 := Lib.hid (show p2.data.toList = wl ep 4 by rw [hp2, wput_data])
  have D3 := Lib.hid (show p3.data.toList = wl l 8 by rw [hp3, wput_data])
  have D4 := Lib.hid (show p4.data.toList = wl v 8 by rw [hp4, wput_data])
  rw [← hn]
  rw [← hn] at HR HO
  rw [hn2]
  rw [hn2] at HR HL
  clear f1 f2 f3 f4 hr ho hl hc1 hc2 hp1 hp2 hp3 hp4 hor hlr hn hn2 hne h16 hlen hc key hbl
  obtain ⟨O, hO⟩ : ∃ O, O = Obj.cells #[.int .u64 g, .int .u32 ep, .int .u64 l, .int .u64 v, .slice (some ⟨b, off, none⟩) n cap, .slice (some ⟨b', off', none⟩) n cap'] 32 := ⟨_, rfl⟩
  have hb0 := (Below.refl w.heap.size w).alloc (Nat.le_refl _) O
  have hA := heap_alloc_new w O
  have hS : (w.alloc O).heap.size = w.heap.size + 1 := by show (w.heap.push O).size = _; rw [Array.size_push]
  rw [hO] at hA
  have HA := Lib.hid hA
  have HS := Lib.hid hS
  clear hA hS
  subst hO
  go_enter Try.func11, Try.ntmps11
  go_wp2_with fail
  refine (HR.out _ (HO.out.below hb0 (Nat.le_refl _)) (HL.out.below hb0 (Nat.le_refl _))).mono ?_; rintro e w1 ⟨rfl, hb1⟩
  go_wp2_with fail
  have hlt : w.heap.size < w1.heap.size := by have := hb1.size; have := HS.out; omega
  have hblk : w1.heap[w.heap.size]? = some (.cells #[.int .u64 g, .int .u32 ep, .int .u64 l, .int .u64 v, .slice (some ⟨b, off, none⟩) n cap, .slice (some ⟨b', off', none⟩) n cap'] 32 (0, 0)) := by
    rw [hb1.block _ (by have := HS.out; omega)]; exact HA.out
  have r0 : ∀ W, Below w1.heap.size w1 W → W.cell? ⟨w.heap.size, 0, none⟩ = some (.int .u64 g) := fun W h => (h.cell (p := ⟨w.heap.size, 0, none⟩) hlt).trans (cell_of_row _ _ 0 _ _ _ hblk)
  have r1 : ∀ W, Below w1.heap.size w1 W → W.cell? ⟨w.heap.size, 1, none⟩ = some (.int .u32 ep) := fun W h => (h.cell (p := ⟨w.heap.size, 1, none⟩) hlt).trans (cell_of_row _ _ 1 _ _ _ hblk)
  have r2 : ∀ W, Below w1.heap.size w1 W → W.cell? ⟨w.heap.size, 2, none⟩ = some (.int .u64 l) := fun W h => (h.cell (p := ⟨w.heap.size, 2, none⟩) hlt).trans (cell_of_row _ _ 2 _ _ _ hblk)
  have r3 : ∀ W, Below w1.heap.size w1 W → W.cell? ⟨w.heap.size, 3, none⟩ = some (.int .u64 v) := fun W h => (h.cell (p := ⟨w.heap.size, 3, none⟩) hlt).trans (cell_of_row _ _ 3 _ _ _ hblk)
  have r4 : ∀ W, Below w1.heap.size w1 W → W.cell? ⟨w.heap.size, 4, none⟩ = some (.slice (some ⟨b, off, none⟩) n cap) := fun W h => (h.cell (p := ⟨w.heap.size, 4, none⟩) hlt).trans (cell_of_row _ _ 4 _ _ _ hblk)
  clear hblk
  have wn : IntKind.u8.wrap (n : Int) = (n : Int) := IntWalk.u8_in _ (by omega)
  have un := u8i_int (n : Int) (by omega) (by omega)
  have we : IntKind.u64.wrap (ep : Int) = (ep : Int) := IntWalk.u64_in _ (by omega)
  refine wp_region_loose (by kernel_rfl) (by kernel_rfl) ?_
  refine wpL_det ?_
  apply Exists.intro
  refine ⟨?_, ?_⟩
  · intro vs w' hC hk
    (try simp [Know.add, depOn, Region.binds] at hk)
    go_simp
    exact ⟨Below.refl _ _, rfl⟩
  refine wpL_det ?_
  apply Exists.intro
  refine ⟨?_, ?_⟩
  · intro vs w' hC hk
    (try simp [Know.add, depOn, Region.binds] at hk)
    go_simp
    exact ⟨Below.refl _ _, rfl⟩
  refine wpL_det ?_
  apply Exists.intro
  refine ⟨?_, ?_⟩
  · intro vs w' hC hk
    (try simp [Know.add, depOn, Region.binds] at hk)
    go_simp
    refine (F1.out _).mono ?_
    rintro e w'' ⟨rfl, hb⟩
    first | exact ⟨rfl, hb⟩ | exact ⟨_, rfl, hb, rfl⟩
  refine wpL_det ?_
  apply Exists.intro
  refine ⟨?_, ?_⟩
  · intro vs w' hC hk
    (try simp [Know.add, depOn, Region.binds] at hk)
    go_simp
    exact ⟨Below.refl _ _, rfl⟩
  refine wpL_det ?_
  apply Exists.intro
  refine ⟨?_, ?_⟩
  · intro vs w' hC hk
    (try simp [Know.add, depOn, Region.binds] at hk)
    go_simp
    exact ⟨Below.refl _ _, rfl⟩
  refine wpL_det ?_
  apply Exists.intro
  refine ⟨?_, ?_⟩
  · intro vs w' hC hk
    (try simp [Know.add, depOn, Region.binds] at hk)
    go_simp
    exact ⟨Below.refl _ _, rfl⟩
  refine wpL_det ?_
  apply Exists.intro
  refine ⟨?_, ?_⟩
  · intro vs w' hC hk
    (try simp [Know.add, depOn, Region.binds] at hk)
    go_simp
    refine (F2.out _).mono ?_
    rintro e w'' ⟨rfl, hb⟩
    first | exact ⟨rfl, hb⟩ | exact ⟨_, rfl, hb, rfl⟩
  refine wpL_det ?_
  apply Exists.intro
  refine ⟨?_, ?_⟩
  · intro vs w' hC hk
    (try simp [Know.add, depOn, Region.binds] at hk)
    go_simp
    exact ⟨Below.refl _ _, rfl⟩
  refine wpL_det ?_
  apply Exists.intro
  refine ⟨?_, ?_⟩
  · intro vs w' hC hk
    (try simp [Know.add, depOn, Region.binds] at hk)
    go_simp
    exact ⟨Below.refl _ _, rfl⟩
  refine wpL_det ?_
  apply Exists.intro
  refine ⟨?_, ?_⟩
  · intro vs w' hC hk
    (try simp [Know.add, depOn, Region.binds] at hk)
    go_simp
    exact ⟨Below.refl _ _, rfl⟩
  refine wpL_det ?_
  apply Exists.intro
  refine ⟨?_, ?_⟩
  · intro vs w' hC hk
    (try simp [Know.add, depOn, Region.binds] at hk)
    go_simp
    refine (F3.out _).mono ?_
    rintro e w'' ⟨rfl, hb⟩
    first | exact ⟨rfl, hb⟩ | exact ⟨_, rfl, hb, rfl⟩
  refine wpL_det ?_
  apply Exists.intro
  refine ⟨?_, ?_⟩
  · intro vs w' hC hk
    (try simp [Know.add, depOn, Region.binds] at hk)
    go_simp
    exact ⟨Below.refl _ _, rfl⟩
  refine wpL_det ?_
  apply Exists.intro
  refine ⟨?_, ?_⟩
  · intro vs w' hC hk
    (try simp [Know.add, depOn, Region.binds] at hk)
    go_simp
    exact ⟨Below.refl _ _, rfl⟩
  refine wpL_det ?_
  apply Exists.intro
  refine ⟨?_, ?_⟩
  · intro vs w' hC hk
    (try simp [Know.add, depOn, Region.binds] at hk)
    go_simp
    exact ⟨Below.refl _ _, rfl⟩
  refine wpL_det ?_
  apply Exists.intro
  refine ⟨?_, ?_⟩
  · intro vs w' hC hk
    (try simp [Know.add, depOn, Region.binds] at hk)
    go_simp
    refine (F4.out _).mono ?_
    rintro e w'' ⟨rfl, hb⟩
    first | exact ⟨rfl, hb⟩ | exact ⟨_, rfl, hb, rfl⟩
  refine wpL_det ?_
  apply Exists.intro
  refine ⟨?_, ?_⟩
  · intro vs w' hC hk
    (try simp [Know.add, depOn, Region.binds] at hk)
    go_simp
    exact ⟨Below.refl _ _, rfl⟩
  refine wpL_det ?_
  apply Exists.intro
  refine ⟨?_, ?_⟩
  · intro vs w' hC hk
    (try simp [Know.add, depOn, Region.binds] at hk)
    go_simp
    exact ⟨Below.refl _ _, rfl⟩
  refine wpL_det ?_
  apply Exists.intro
  refine ⟨?_, ?_⟩
  · intro vs w' hC hk
    (try simp [Know.add, depOn, Region.binds] at hk)
    go_simp
    exact ⟨Below.refl _ _, rfl⟩
  refine wpL_det ?_
  apply Exists.intro
  refine ⟨?_, ?_⟩
  · intro vs w' hC hk
    (try simp [Know.add, depOn, Region.binds] at hk)
    go_simp
    exact ⟨Below.refl _ _, rfl⟩
  refine wpL_det ?_
  apply Exists.intro
  refine ⟨?_, ?_⟩
  · intro vs w' hC hk
    (try simp [Know.add, depOn, Region.binds] at hk)
    go_simp
    exact ⟨Below.refl _ _, rfl⟩
  refine wpL_step (NewBytes 5 [u8i n]) (stab_bytes _ _) ?_ ?_
  · intro vs w' hC hk
    (try simp [Know.add, depOn, Region.binds] at hk)
    go_simp
    exact ⟨(Below.refl _ _).alloc (Nat.le_refl _) _, _, rfl, by
      have h := heap_alloc_new w' (.cells #[.int .u8 (n : Int)] 5)
      rw [h]
      simp only [List.map_cons, List.map_nil, un]⟩
  refine wpL_det ?_
  apply Exists.intro
  refine ⟨?_, ?_⟩
  · intro vs w' hC hk
    have h20 : NewBytes 5 [u8i n] (vs 20) w' := hk.2 (by kernel_rfl)
    clear hk
    refine Exists.elim h20 ?_
    clear h20
    intro b1 hh
    have hv := hh.1
    have hrow := hh.2
    clear hh
    have hcv := conv_new (ty := 5) w' b1 [u8i n] hrow
    simp only [List.length_cons, List.length_nil, Nat.zero_add] at hv hcv
    clear hrow
    go_simp
    exact ⟨Below.refl _ _, rfl⟩
  refine wpL_det ?_
  apply Exists.intro
  refine ⟨?_, ?_⟩
  · intro vs w' hC hk
    (try simp [Know.add, depOn, Region.binds] at hk)
    go_simp
    exact ⟨Below.refl _ _, rfl⟩
  refine wpL_det ?_
  apply Exists.intro
  refine ⟨?_, ?_⟩
  · intro vs w' hC hk
    (try simp [Know.add, depOn, Region.binds] at hk)
    go_simp
    exact ⟨Below.refl _ _, rfl⟩
  refine wpL_nil ?_
  intro vs w' hC hk
  have h23 : vs 23 = .string (p1 ++ p2 ++ p3 ++ p4 ++ ⟨[u8i n].toArray⟩) := hk.2 rfl
  clear hk
  go_wp2_with fail
  have hbs : Below w.heap.size w w' := below_step (below_step hb0 hb1) hC
  have hblk0 : w'.heap[w.heap.size]? = some (.cells #[.int .u64 g, .int .u32 ep, .int .u64 l, .int .u64 v, .slice (some ⟨b, off, none⟩) n cap, .slice (some ⟨b', off', none⟩) n cap'] 32 (0, 0)) := by
    rw [hC.block _ hlt, hb1.block _ (by have := HS.out; omega)]; exact HA.out
  clear r0 r1 r2 r3 r4 h23 hC
  go_loopw [4, 5] (fun sv i wr => ∃ (k : Nat) (y : ByteArray), k ≤ n ∧ i = .int .i64 k ∧ sv = .string y ∧ y.data.toList = c.hdr ++ c.pairs k ∧ Below w.heap.size w wr ∧
    wr.heap[w.heap.size]? = some (.cells #[.int .u64 g, .int .u32 ep, .int .u64 l, .int .u64 v, .slice (some ⟨b, off, none⟩) n cap, .slice (some ⟨b', off', none⟩) n cap'] 32 (0, 0))) (fun _ i _ => n - (intOf i).toNat)
  case atStart =>
    refine ⟨0, _, by omega, rfl, rfl, ?_, hbs, hblk0⟩
    simp only [ByteArray.data_append, Array.toList_append, D1.out, D2.out, D3.out, D4.out]
    rw [HC.out]
    simp [Ck.hdr, Ck.pairs, HNN.out]
  case round =>
    obtain ⟨k, y, hk, rfl, rfl, hy, hbel, hblk⟩ := hrel
    clear hblk0 hbs
    have hys : y.size = 29 + 2 * k := by
      have h1 : y.size = y.data.toList.length := rfl
      rw [h1, hy, List.length_append, Ck.hdr_length, KEY.out k hk]
    have HY := Lib.hid hy
    have HB := Lib.hid hblk
    have hws : w.heap.size < wr.heap.size := by
      rcases Nat.lt_or_ge w.heap.size wr.heap.size with h | h
      · exact h
      · rw [Array.getElem?_eq_none h] at hblk; cases hblk
    have r4 : ∀ W, Below wr.heap.size wr W → W.cell? ⟨w.heap.size, 4, none⟩ = some (.slice (some ⟨b, off, none⟩) n cap) := fun W h => (h.cell (p := ⟨w.heap.size, 4, none⟩) hws).trans (cell_of_row _ _ 4 _ _ _ hblk)
    have r5 : ∀ W, Below wr.heap.size wr W → W.cell? ⟨w.heap.size, 5, none⟩ = some (.slice (some ⟨b', off', none⟩) n cap') := fun W h => (h.cell (p := ⟨w.heap.size, 5, none⟩) hws).trans (cell_of_row _ _ 5 _ _ _ hblk)
    have c4 := r4 wr (Below.refl _ _)
    clear hy hblk
    by_cases hltk : k < n
    · have hlo : k < od.length := by have := HNN.out; omega
      have hll : k < ln.length := by have := HN2.out; omega
      obtain ⟨x, hx⟩ : ∃ x, x = od[k] := ⟨_, rfl⟩
      obtain ⟨u, hu⟩ : ∃ y, y = ln[k] := ⟨_, rfl⟩
      have hxr : 0 ≤ x ∧ x < 16 := by rw [hx]; exact HOR.out _ (List.getElem_mem _)
      have hur : 0 ≤ u ∧ u ≤ 30 := by rw [hu]; exact HLR.out _ (List.getElem_mem _)
      have l1 := block_lt_of_cell (C1.out k hlo)
      have l2 := block_lt_of_cell (C2.out k hll)
      have q1 : ∀ W, Below wr.heap.size wr W → W.cell? ⟨b, off + k, none⟩ = some (.int .i64 x) := fun W h => by
        rw [h.cell (p := ⟨b, off + k, none⟩) (Nat.lt_of_lt_of_le l1 hbel.size), hbel.cell (p := ⟨b, off + k, none⟩) l1, C1.out k hlo, hx]
      have q2 : ∀ W, Below wr.heap.size wr W → W.cell? ⟨b', off' + k, none⟩ = some (.int .i64 u) := fun W h => by
        rw [h.cell (p := ⟨b', off' + k, none⟩) (Nat.lt_of_lt_of_le l2 hbel.size), hbel.cell (p := ⟨b', off' + k, none⟩) l2, C2.out k hll, hu]
      have ux := u8i_int x hxr.1 (by omega)
      have uu := u8i_int u hur.1 (by omega)
      have wx : IntKind.u8.wrap x = x := IntWalk.u8_in _ (by omega)
      have wu : IntKind.u8.wrap u = u := IntWalk.u8_in _ (by omega)
      have hkn : (k : Int) < (n : Int) := by omega
      have hcc : (9223372036854775807 < 29 + 2 * k + 2) = False := eq_false (by omega)
      have HX := Lib.hid hx
      have HU := Lib.hid hu
      clear hx hu l1 l2
      go_wp2_with fail
      clear c4
      refine wp_region_loose (by kernel_rfl) (by kernel_rfl) ?_
      refine wpL_det ?_
      apply Exists.intro
      refine ⟨?_, ?_⟩
      · intro vs w' hC hk
        (try simp [Know.add, depOn, Region.binds] at hk)
        go_simp
        exact ⟨Below.refl _ _, rfl⟩
      refine wpL_det ?_
      apply Exists.intro
      refine ⟨?_, ?_⟩
      · intro vs w' hC hk
        (try simp [Know.add, depOn, Region.binds] at hk)
        go_simp
        exact ⟨Below.refl _ _, rfl⟩
      refine wpL_det ?_
      apply Exists.intro
      refine ⟨?_, ?_⟩
      · intro vs w' hC hk
        (try simp [Know.add, depOn, Region.binds] at hk)
        go_simp
        exact ⟨Below.refl _ _, rfl⟩
      refine wpL_det ?_
      apply Exists.intro
      refine ⟨?_, ?_⟩
      · intro vs w' hC hk
        (try simp [Know.add, depOn, Region.binds] at hk)
        go_simp
        exact ⟨Below.refl _ _, rfl⟩
      refine wpL_det ?_
      apply Exists.intro
      refine ⟨?_, ?_⟩
      · intro vs w' hC hk
        (try simp [Know.add, depOn, Region.binds] at hk)
        go_simp
        exact ⟨Below.refl _ _, rfl⟩
      refine wpL_det ?_
      apply Exists.intro
      refine ⟨?_, ?_⟩
      · intro vs w' hC hk
        (try simp [Know.add, depOn, Region.binds] at hk)
        go_simp
        exact ⟨Below.refl _ _, rfl⟩
      refine wpL_det ?_
      apply Exists.intro
      refine ⟨?_, ?_⟩
      · intro vs w' hC hk
        (try simp [Know.add, depOn, Region.binds] at hk)
        go_simp
        exact ⟨Below.refl _ _, rfl⟩
      refine wpL_det ?_
      apply Exists.intro
      refine ⟨?_, ?_⟩
      · intro vs w' hC hk
        (try simp [Know.add, depOn, Region.binds] at hk)
        go_simp
        exact ⟨Below.refl _ _, rfl⟩
      refine wpL_det ?_
      apply Exists.intro
      refine ⟨?_, ?_⟩
      · intro vs w' hC hk
        (try simp [Know.add, depOn, Region.binds] at hk)
        go_simp
        exact ⟨Below.refl _ _, rfl⟩
      refine wpL_det ?_
      apply Exists.intro
      refine ⟨?_, ?_⟩
      · intro vs w' hC hk
        (try simp [Know.add, depOn, Region.binds] at hk)
        go_simp
        exact ⟨Below.refl _ _, rfl⟩
      refine wpL_det ?_
      apply Exists.intro
      refine ⟨?_, ?_⟩
      · intro vs w' hC hk
        (try simp [Know.add, depOn, Region.binds] at hk)
        go_simp
        exact ⟨Below.refl _ _, rfl⟩
      refine wpL_det ?_
      apply Exists.intro
      refine ⟨?_, ?_⟩
      · intro vs w' hC hk
        (try simp [Know.add, depOn, Region.binds] at hk)
        go_simp
        exact ⟨Below.refl _ _, rfl⟩
      refine wpL_det ?_
      apply Exists.intro
      refine ⟨?_, ?_⟩
      · intro vs w' hC hk
        (try simp [Know.add, depOn, Region.binds] at hk)
        go_simp
        exact ⟨Below.refl _ _, rfl⟩
      refine wpL_step (NewBytes 5 [u8i x, u8i u]) (stab_bytes _ _) ?_ ?_
      · intro vs w' hC hk
        (try simp [Know.add, depOn, Region.binds] at hk)
        go_simp
        exact ⟨(Below.refl _ _).alloc (Nat.le_refl _) _, _, rfl, by
          have h := heap_alloc_new w' (.cells #[.int .u8 x, .int .u8 u] 5)
          rw [h]
          simp only [List.map_cons, List.map_nil, ux, uu]⟩
      refine wpL_det ?_
      apply Exists.intro
      refine ⟨?_, ?_⟩
      · intro vs w' hC hk
        have h20 : NewBytes 5 [u8i x, u8i u] (vs 13) w' := hk.2 (by kernel_rfl)
        clear hk
        unfold NewBytes at h20
        obtain ⟨b1, hv, hrow⟩ := h20
        have hcv := conv_new (ty := 5) w' b1 [u8i x, u8i u] hrow
        simp only [List.length_cons, List.length_nil, Nat.zero_add, Nat.reduceAdd] at hv hcv
        clear hrow
        go_simp
        exact ⟨Below.refl _ _, rfl⟩
      refine wpL_det ?_
      apply Exists.intro
      refine ⟨?_, ?_⟩
      · intro vs w' hC hk
        (try simp [Know.add, depOn, Region.binds] at hk)
        go_simp
        exact ⟨Below.refl _ _, rfl⟩
      refine wpL_det ?_
      apply Exists.intro
      refine ⟨?_, ?_⟩
      · intro vs w' hC hk
        (try simp [Know.add, depOn, Region.binds] at hk)
        go_simp
        exact ⟨Below.refl _ _, rfl⟩
      refine wpL_nil ?_
      intro vs w' hC hk
      have h16 : vs 16 = .string (y ++ ⟨[u8i x, u8i u].toArray⟩) := hk.2 rfl
      clear hk
      go_wp2_with fail
      go_roundw
      case rel =>
        refine ⟨k + 1, _, by omega, by go_num, rfl, ?_, below_step hbel hC, ?_⟩
        · rw [ByteArray.data_append, Array.toList_append, HY.out]
          have hp := c.pairs_next k (by rw [HC.out]; exact hlo) (by rw [HC.out]; exact hll)
          have e1 : c.order[k]'(by rw [HC.out]; exact hlo) = x := by rw [HX.out]; simp only [HC.out]
          have e2 : c.lens[k]'(by rw [HC.out]; exact hll) = u := by rw [HU.out]; simp only [HC.out]
          rw [hp, e1, e2]
          simp
        · rw [hC.block _ hws]; exact HB.out
      case measure => simp [intOf]; omega
    · obtain rfl : k = n := by omega
      go_wp2_with fail
      clear c4 r4 r5
      have hy0 := HY.out
      go_loopw [4] (fun sv wr => ∃ (m : Nat) (y : ByteArray), m ≤ 116 - (29 + 2 * k) ∧ sv = .string y ∧ y.data.toList = c.hdr ++ c.pairs k ++ List.replicate m 0 ∧ Below w.heap.size w wr ∧
        wr.heap[w.heap.size]? = some (.cells #[.int .u64 g, .int .u32 ep, .int .u64 l, .int .u64 v, .slice (some ⟨b, off, none⟩) k cap, .slice (some ⟨b', off', none⟩) k cap'] 32 (0, 0))) (fun sv _ => match sv with | .string y => 116 - y.size | _ => 0)
      case atStart => exact ⟨0, _, by omega, rfl, by rw [hy0]; simp, hbel, HB.out⟩
      case round =>
        obtain ⟨m, y, hm, rfl, hy, hbl2, hblk2⟩ := hrel
        clear hy0
        have hysz : y.size = 29 + 2 * k + m := by
          have h1 : y.size = y.data.toList.length := rfl
          rw [h1, hy, List.length_append, List.length_append, Ck.hdr_length, KEY.out k (Nat.le_refl _), List.length_replicate]
        have HY2 := Lib.hid hy
        have HB2 := Lib.hid hblk2
        clear hy hblk2
        by_cases h116 : 29 + 2 * k + m < 116
        · have hcc : (9223372036854775807 < 29 + 2 * k + m + 1) = False := eq_false (by omega)
          go_wp2_with fail
          go_roundw
          case rel =>
            refine ⟨m + 1, _, by omega, rfl, ?_, hbl2, HB2.out⟩
            rw [ByteArray.data_append, Array.toList_append, HY2.out, List.replicate_succ']
            simp
          case measure =>
            have e1 : (⟨#[0]⟩ : ByteArray).size = 1 := rfl
            have e2 : (y ++ ⟨#[0]⟩).size = y.size + 1 := by rw [ByteArray.size_append, e1]
            show 116 - (y ++ ⟨#[0]⟩).size < 116 - y.size
            omega
        · have hyb : y.data.toList = c.body := by
            rw [HY2.out]
            unfold Ck.body
            have h1 : c.order.length = k := by rw [HC.out]; exact HNN.out.symm
            rw [h1, show m = 116 - (29 + 2 * k) by omega]
          obtain ⟨R, hR⟩ : ∃ R, R = c.crc := ⟨_, rfl⟩
          have hRl : R.toNat < 4294967296 := R.isLt
          obtain ⟨p5, hp5⟩ : ∃ p, p = wput R.toNat 4 := ⟨_, rfl⟩
          have s5 : p5.size = 4 := by rw [hp5, wput_size]
          have fs := fun W => grows (rSum_val y W R (by omega) (Lib.hid (by rw [hR]; unfold Ck.crc bl; rw [hyb])))
          have f5 := fun W => rPut_val R.toNat 4 W p5 (by omega) (Lib.hid (by rw [hp5]; rfl))
          have hzz : z = y ++ p5 ++ p1 := by
            apply ByteArray.ext
            apply Array.ext'
            rw [hz.out, ByteArray.data_append, Array.toList_append, ByteArray.data_append, Array.toList_append, hyb, D1.out, hp5, wput_data, hR]
            unfold Ck.enc
            rw [show c.gen = g by rw [HC.out]]
          have FS := Lib.hid fs
          have F5 := Lib.hid f5
          have hys116 : y.size = 116 := by omega
          have hws : w.heap.size < wr.heap.size := by
            rcases Nat.lt_or_ge w.heap.size wr.heap.size with h | h
            · exact h
            · have := HB2.out; rw [Array.getElem?_eq_none h] at this; cases this
          have hb2 := HB2.out
          have r0 : ∀ W, Below wr.heap.size wr W → W.cell? ⟨w.heap.size, 0, none⟩ = some (.int .u64 g) := fun W h => (h.cell (p := ⟨w.heap.size, 0, none⟩) hws).trans (cell_of_row _ _ 0 _ _ _ hb2)
          have wR : IntKind.u64.wrap (R.toNat : Int) = (R.toNat : Int) := IntWalk.u64_in _ (by omega)
          have HZZ := Lib.hid hzz
          clear fs f5 hzz hR hp5 hyb hb2 hysz
          go_wp2_with fail
          refine wp_region_loose (by kernel_rfl) (by kernel_rfl) ?_
          refine wpL_det ?_
          apply Exists.intro
          refine ⟨?_, ?_⟩
          · intro vs w' hC hk
            (try simp [Know.add, depOn, Region.binds] at hk)
            go_simp
            exact ⟨Below.refl _ _, rfl⟩
          refine wpL_det ?_
          apply Exists.intro
          refine ⟨?_, ?_⟩
          · intro vs w' hC hk
            (try simp [Know.add, depOn, Region.binds] at hk)
            go_simp
            exact ⟨Below.refl _ _, rfl⟩
          refine wpL_det ?_
          apply Exists.intro
          refine ⟨?_, ?_⟩
          · intro vs w' hC hk
            (try simp [Know.add, depOn, Region.binds] at hk)
            go_simp
            refine (FS.out _).mono ?_
            rintro e w'' ⟨rfl, hb⟩
            first | exact ⟨rfl, hb⟩ | exact ⟨_, rfl, hb, rfl⟩
          refine wpL_det ?_
          apply Exists.intro
          refine ⟨?_, ?_⟩
          · intro vs w' hC hk
            (try simp [Know.add, depOn, Region.binds] at hk)
            go_simp
            exact ⟨Below.refl _ _, rfl⟩
          refine wpL_det ?_
          apply Exists.intro
          refine ⟨?_, ?_⟩
          · intro vs w' hC hk
            (try simp [Know.add, depOn, Region.binds] at hk)
            go_simp
            refine (F5.out _).mono ?_
            rintro e w'' ⟨rfl, hb⟩
            first | exact ⟨rfl, hb⟩ | exact ⟨_, rfl, hb, rfl⟩
          refine wpL_det ?_
          apply Exists.intro
          refine ⟨?_, ?_⟩
          · intro vs w' hC hk
            (try simp [Know.add, depOn, Region.binds] at hk)
            go_simp
            exact ⟨Below.refl _ _, rfl⟩
          refine wpL_det ?_
          apply Exists.intro
          refine ⟨?_, ?_⟩
          · intro vs w' hC hk
            (try simp [Know.add, depOn, Region.binds] at hk)
            go_simp
            exact ⟨Below.refl _ _, rfl⟩
          refine wpL_det ?_
          apply Exists.intro
          refine ⟨?_, ?_⟩
          · intro vs w' hC hk
            (try simp [Know.add, depOn, Region.binds] at hk)
            go_simp
            exact ⟨Below.refl _ _, rfl⟩
          refine wpL_det ?_
          apply Exists.intro
          refine ⟨?_, ?_⟩
          · intro vs w' hC hk
            (try simp [Know.add, depOn, Region.binds] at hk)
            go_simp
            refine (F1.out _).mono ?_
            rintro e w'' ⟨rfl, hb⟩
            first | exact ⟨rfl, hb⟩ | exact ⟨_, rfl, hb, rfl⟩
          refine wpL_det ?_
          apply Exists.intro
          refine ⟨?_, ?_⟩
          · intro vs w' hC hk
            (try simp [Know.add, depOn, Region.binds] at hk)
            go_simp
            exact ⟨Below.refl _ _, rfl⟩
          refine wpL_det ?_
          apply Exists.intro
          refine ⟨?_, ?_⟩
          · intro vs w' hC hk
            (try simp [Know.add, depOn, Region.binds] at hk)
            go_simp
            exact ⟨Below.refl _ _, rfl⟩
          refine wpL_det ?_
          apply Exists.intro
          refine ⟨?_, ?_⟩
          · intro vs w' hC hk
            (try simp [Know.add, depOn, Region.binds] at hk)
            go_simp
            exact ⟨Below.refl _ _, rfl⟩
          refine wpL_nil ?_
          intro vs w' hC hk
          have h1 : vs 10 = .string (y ++ p5 ++ p1) := hk.1.2 rfl
          have h2 : vs 11 = .int .i64 0 := hk.2 rfl
          clear hk
          go_wp2_with fail
          go_ret2
          refine ⟨?_, below_step hbl2 hC⟩
          go_simp
          rw [HZZ.out]
end Go.Proofs.Ytieijelbflkpeaa.G
