/- The document's bytes of an act: kinds 0 and 5. -/
import Derived.Test.YtjkiofgllmjkcaaTb
import Derived.Test.YtjkiofgllmjkcaaGFast
import Derived.BigQuiet
namespace Go.Proofs.Ytjkiofgllmjkcaa.G
open Go.RowKit Go.Proofs.Ytjkiofgllmjkcaa.WordPlain Go.Proofs.Ytjkiofgllmjkcaa.Loose
set_option linter.unusedVariables false
set_option linter.unusedSimpArgs false

set_option maxRecDepth 100000 in
set_option maxHeartbeats 8000000 in
theorem rb_0 (w : World) (rk p : Nat) (to pl : Int) (i v : ByteArray) (t n m cap : Nat) (oa : Option Addr) (hrk : rk < 256) (hp : p < 256) (hi : i.size < 256) (hv : v.size < 256) (ht : t < 18446744073709551616) (z : ByteArray) (hz : Hid (z = wput 0 1 ++ ((((wput rk 1 ++ txt i) ++ txt v) ++ wput t 8) ++ wput p 1))) :
    Calls Try.prog 25 #[.agg #[.int .i64 0, .int .i64 (rk : Nat), .string i, .string v, .float .f64 t, .int .i64 (p : Nat), .int .u64 (n : Int), .slice oa m cap, .int .i64 to, .int .i64 pl]] w fun e w' => e = .returned (.string z) ∧ Below w.heap.size w w' := by
  have b0 := alloc_below w (.cells #[.int .i64 0, .int .i64 (rk : Nat), .string i, .string v, .float .f64 t, .int .i64 (p : Nat), .int .u64 (n : Int), .slice oa m cap, .int .i64 to, .int .i64 pl] 47)
  have n0 := heap_alloc_new w (.cells #[.int .i64 0, .int .i64 (rk : Nat), .string i, .string v, .float .f64 t, .int .i64 (p : Nat), .int .u64 (n : Int), .slice oa m cap, .int .i64 to, .int .i64 pl] 47)
  obtain ⟨c0, c1, c2, c3, c4, c5, c6, c7, c8, c9⟩ := ract_cells n0
  have n1 := heap_alloc_new (w.alloc (.cells #[.int .i64 0, .int .i64 (rk : Nat), .string i, .string v, .float .f64 t, .int .i64 (p : Nat), .int .u64 (n : Int), .slice oa m cap, .int .i64 to, .int .i64 pl] 47)) (.cells #[.int .u8 0] 5)
  have cv := conv1 ((w.alloc (.cells #[.int .i64 0, .int .i64 (rk : Nat), .string i, .string v, .float .f64 t, .int .i64 (p : Nat), .int .u64 (n : Int), .slice oa m cap, .int .i64 to, .int .i64 pl] 47)).alloc (.cells #[.int .u8 0] 5)) (w.heap.size + 1) 0 0 rfl (by decide) (by rw [show w.heap.size + 1 = (w.alloc (.cells #[.int .i64 0, .int .i64 (rk : Nat), .string i, .string v, .float .f64 t, .int .i64 (p : Nat), .int .u64 (n : Int), .slice oa m cap, .int .i64 to, .int .i64 pl] 47)).heap.size by rw [alloc_sizeB]]; exact n1)
  have b1 := alloc_below (w.alloc (.cells #[.int .i64 0, .int .i64 (rk : Nat), .string i, .string v, .float .f64 t, .int .i64 (p : Nat), .int .u64 (n : Int), .slice oa m cap, .int .i64 to, .int .i64 pl] 47)) (.cells #[.int .u8 0] 5)
  obtain ⟨z0, hz0⟩ : ∃ z, z = wput 0 1 := ⟨_, rfl⟩
  have s0 : z0.size = 1 := by rw [hz0, wput_size]
  rw [← hz0] at cv hz
  have d := fun W (hb : Below ((w.alloc (.cells #[.int .i64 0, .int .i64 (rk : Nat), .string i, .string v, .float .f64 t, .int .i64 (p : Nat), .int .u64 (n : Int), .slice oa m cap, .int .i64 to, .int .i64 pl] 47)).alloc (.cells #[.int .u8 0] 5)).heap.size ((w.alloc (.cells #[.int .i64 0, .int .i64 (rk : Nat), .string i, .string v, .float .f64 t, .int .i64 (p : Nat), .int .u64 (n : Int), .slice oa m cap, .int .i64 to, .int .i64 pl] 47)).alloc (.cells #[.int .u8 0] 5)) W) => ract_cells (b_cells (b_cells n0 _ b1) W hb)
  have D := Lib.hid d
  have B0 := Lib.hid (stepQ b0 b1)
  have N0 := Lib.hid n0
  clear b0 b1 n0 n1 d hz0
  have pv := fun W => rPut_val t 8 W (wput t 8) ht (Lib.hid rfl)
  obtain ⟨y1, hy1⟩ : ∃ y, y = wput rk 1 ++ wput i.size 1 := ⟨_, rfl⟩
  obtain ⟨y2, hy2⟩ : ∃ y, y = wput v.size 1 := ⟨_, rfl⟩
  obtain ⟨y3, hy3⟩ : ∃ y, y = wput t 8 := ⟨_, rfl⟩
  obtain ⟨y4, hy4⟩ : ∃ y, y = wput p 1 := ⟨_, rfl⟩
  have s1 : y1.size = 2 := by rw [hy1, ByteArray.size_append, wput_size, wput_size]
  have s2 : y2.size = 1 := by rw [hy2, wput_size]
  have s3 : y3.size = 8 := by rw [hy3, wput_size]
  have s4 : y4.size = 1 := by rw [hy4, wput_size]
  have e1 : z0 ++ (y1 ++ i ++ y2 ++ v ++ y3 ++ y4) = z := by
    rw [hz.out, hy1, hy2, hy3, hy4]
    unfold txt
    simp only [ByteArray.append_assoc]
  have C1 : Hid (∀ W b, W.heap[b]? = some (.cells #[.int .u8 (rk : Int), .int .u8 (i.size : Int)] 5 (0, 0)) → (convert 80 9 (.slice (some ⟨b, 0, none⟩) 2 2)).run Try.prog W = .ok (.string y1) W) := Lib.hid (fun W b h => by rw [hy1]; exact conv2 W b _ _ rk i.size rfl rfl hrk hi h)
  have C2 : Hid (∀ W b, W.heap[b]? = some (.cells #[.int .u8 (v.size : Int)] 5 (0, 0)) → (convert 80 9 (.slice (some ⟨b, 0, none⟩) 1 1)).run Try.prog W = .ok (.string y2) W) := Lib.hid (fun W b h => by rw [hy2]; exact conv1 W b _ v.size rfl hv h)
  have C3 : Hid (∀ W b, W.heap[b]? = some (.cells #[.int .u8 (p : Int)] 5 (0, 0)) → (convert 80 9 (.slice (some ⟨b, 0, none⟩) 1 1)).run Try.prog W = .ok (.string y4) W) := Lib.hid (fun W b h => by rw [hy4]; exact conv1 W b _ p rfl hp h)
  rw [← hy3] at pv
  have PV := Lib.hid pv
  have E1 := Lib.hid e1
  have wr := IntWalk.u8_in (rk : Int) (by omega)
  have wi := IntWalk.u8_in (i.size : Int) (by omega)
  have wv := IntWalk.u8_in (v.size : Int) (by omega)
  have wp := IntWalk.u8_in (p : Int) (by omega)
  have f1 : (9223372036854775807 < y1.size + i.size) = False := eq_false (by omega)
  have f2 : (9223372036854775807 < y1.size + i.size + y2.size) = False := eq_false (by omega)
  have f3 : (9223372036854775807 < y1.size + i.size + y2.size + v.size) = False := eq_false (by omega)
  have f4 : (9223372036854775807 < y1.size + i.size + y2.size + v.size + y3.size) = False := eq_false (by omega)
  have f5 : (9223372036854775807 < y1.size + i.size + y2.size + v.size + y3.size + y4.size) = False := eq_false (by omega)
  have f6 : (9223372036854775807 < z0.size + (y1.size + i.size + y2.size + v.size + y3.size + y4.size)) = False := eq_false (by omega)
  clear pv e1 hy1 hy2 hy3 hy4 hz hrk hp hi hv ht s0 s1 s2 s3 s4
  go_enter Try.func25, Try.ntmps25
  go_wp2_with fail
  obtain ⟨W1, hW1⟩ : ∃ W, W = (w.alloc (.cells #[.int .i64 0, .int .i64 (rk : Nat), .string i, .string v, .float .f64 t, .int .i64 (p : Nat), .int .u64 (n : Int), .slice oa m cap, .int .i64 to, .int .i64 pl] 47)).alloc (.cells #[.int .u8 0] 5) := ⟨_, rfl⟩
  rw [← hW1] at D B0 ⊢
  clear c0 c1 c2 c3 c4 c5 c6 c7 c8 c9 cv hW1
  have r1 := fun W h => (D.out W h).2.1
  have r2 := fun W h => (D.out W h).2.2.1
  have r3 := fun W h => (D.out W h).2.2.2.1
  have r4 := fun W h => (D.out W h).2.2.2.2.1
  have r5 := fun W h => (D.out W h).2.2.2.2.2.1
  have bt := bitsT t
  refine wp_region_loose_fast (by kernel_rfl) (by kernel_rfl) ?_
  refine wpL_det ?_
  apply Exists.intro
  refine ⟨?_, ?_⟩
  · intro vs w' hC hk
    (try simp [Know.add, depOn, Region.binds] at hk)
    go_simp
    exact ⟨Below.refl _ _, rfl⟩
  refine wpL_det ?_
  apply Exists.intro
  refine ⟨?_, ?_⟩
  · intro vs w' hC hk
    (try simp [Know.add, depOn, Region.binds] at hk)
    go_simp
    exact ⟨Below.refl _ _, rfl⟩
  refine wpL_det ?_
  apply Exists.intro
  refine ⟨?_, ?_⟩
  · intro vs w' hC hk
    (try simp [Know.add, depOn, Region.binds] at hk)
    go_simp
    exact ⟨Below.refl _ _, rfl⟩
  refine wpL_det ?_
  apply Exists.intro
  refine ⟨?_, ?_⟩
  · intro vs w' hC hk
    (try simp [Know.add, depOn, Region.binds] at hk)
    go_simp
    exact ⟨Below.refl _ _, rfl⟩
  refine wpL_det ?_
  apply Exists.intro
  refine ⟨?_, ?_⟩
  · intro vs w' hC hk
    (try simp [Know.add, depOn, Region.binds] at hk)
    go_simp
    exact ⟨Below.refl _ _, rfl⟩
  refine wpL_det ?_
  apply Exists.intro
  refine ⟨?_, ?_⟩
  · intro vs w' hC hk
    (try simp [Know.add, depOn, Region.binds] at hk)
    go_simp
    exact ⟨Below.refl _ _, rfl⟩
  refine wpL_det ?_
  apply Exists.intro
  refine ⟨?_, ?_⟩
  · intro vs w' hC hk
    (try simp [Know.add, depOn, Region.binds] at hk)
    go_simp
    exact ⟨Below.refl _ _, rfl⟩
  refine wpL_det ?_
  apply Exists.intro
  refine ⟨?_, ?_⟩
  · intro vs w' hC hk
    (try simp [Know.add, depOn, Region.binds] at hk)
    go_simp
    exact ⟨Below.refl _ _, rfl⟩
  refine wpL_det ?_
  apply Exists.intro
  refine ⟨?_, ?_⟩
  · intro vs w' hC hk
    (try simp [Know.add, depOn, Region.binds] at hk)
    go_simp
    exact ⟨Below.refl _ _, rfl⟩
  refine wpL_det ?_
  apply Exists.intro
  refine ⟨?_, ?_⟩
  · intro vs w' hC hk
    (try simp [Know.add, depOn, Region.binds] at hk)
    go_simp
    exact ⟨Below.refl _ _, rfl⟩
  refine wpL_step (NB #[.int .u8 (rk : Int), .int .u8 (i.size : Int)] 2) (stab_NB _ _) ?_ ?_
  · intro vs w' hC hk
    (try simp [Know.add, depOn, Region.binds] at hk)
    go_simp
    exact ⟨(Below.refl _ _).alloc (Nat.le_refl _) _, _, rfl, heap_alloc_new w' _⟩
  refine wpL_det ?_
  apply Exists.intro
  refine ⟨?_, ?_⟩
  · intro vs w' hC hk
    have h20 : NB #[.int .u8 (rk : Int), .int .u8 (i.size : Int)] 2 (vs 10) w' := hk.2 (by kernel_rfl)
    clear hk
    unfold NB at h20
    obtain ⟨b1, hv, hrow⟩ := h20
    have hcv := C1.out w' b1 hrow
    clear hrow
    go_simp
    exact ⟨Below.refl _ _, rfl⟩
  refine wpL_det ?_
  apply Exists.intro
  refine ⟨?_, ?_⟩
  · intro vs w' hC hk
    (try simp [Know.add, depOn, Region.binds] at hk)
    go_simp
    exact ⟨Below.refl _ _, rfl⟩
  refine wpL_det ?_
  apply Exists.intro
  refine ⟨?_, ?_⟩
  · intro vs w' hC hk
    (try simp [Know.add, depOn, Region.binds] at hk)
    go_simp
    exact ⟨Below.refl _ _, rfl⟩
  refine wpL_det ?_
  apply Exists.intro
  refine ⟨?_, ?_⟩
  · intro vs w' hC hk
    (try simp [Know.add, depOn, Region.binds] at hk)
    go_simp
    exact ⟨Below.refl _ _, rfl⟩
  refine wpL_det ?_
  apply Exists.intro
  refine ⟨?_, ?_⟩
  · intro vs w' hC hk
    (try simp [Know.add, depOn, Region.binds] at hk)
    go_simp
    exact ⟨Below.refl _ _, rfl⟩
  refine wpL_det ?_
  apply Exists.intro
  refine ⟨?_, ?_⟩
  · intro vs w' hC hk
    (try simp [Know.add, depOn, Region.binds] at hk)
    go_simp
    exact ⟨Below.refl _ _, rfl⟩
  refine wpL_det ?_
  apply Exists.intro
  refine ⟨?_, ?_⟩
  · intro vs w' hC hk
    (try simp [Know.add, depOn, Region.binds] at hk)
    go_simp
    exact ⟨Below.refl _ _, rfl⟩
  refine wpL_det ?_
  apply Exists.intro
  refine ⟨?_, ?_⟩
  · intro vs w' hC hk
    (try simp [Know.add, depOn, Region.binds] at hk)
    go_simp
    exact ⟨Below.refl _ _, rfl⟩
  refine wpL_det ?_
  apply Exists.intro
  refine ⟨?_, ?_⟩
  · intro vs w' hC hk
    (try simp [Know.add, depOn, Region.binds] at hk)
    go_simp
    exact ⟨Below.refl _ _, rfl⟩
  refine wpL_det ?_
  apply Exists.intro
  refine ⟨?_, ?_⟩
  · intro vs w' hC hk
    (try simp [Know.add, depOn, Region.binds] at hk)
    go_simp
    exact ⟨Below.refl _ _, rfl⟩
  refine wpL_step (NB #[.int .u8 (v.size : Int)] 1) (stab_NB _ _) ?_ ?_
  · intro vs w' hC hk
    (try simp [Know.add, depOn, Region.binds] at hk)
    go_simp
    exact ⟨(Below.refl _ _).alloc (Nat.le_refl _) _, _, rfl, heap_alloc_new w' _⟩
  refine wpL_det ?_
  apply Exists.intro
  refine ⟨?_, ?_⟩
  · intro vs w' hC hk
    have h20 : NB #[.int .u8 (v.size : Int)] 1 (vs 21) w' := hk.2 (by kernel_rfl)
    clear hk
    unfold NB at h20
    obtain ⟨b1, hv, hrow⟩ := h20
    have hcv := C2.out w' b1 hrow
    clear hrow
    go_simp
    exact ⟨Below.refl _ _, rfl⟩
  refine wpL_det ?_
  apply Exists.intro
  refine ⟨?_, ?_⟩
  · intro vs w' hC hk
    (try simp [Know.add, depOn, Region.binds] at hk)
    go_simp
    exact ⟨Below.refl _ _, rfl⟩
  refine wpL_det ?_
  apply Exists.intro
  refine ⟨?_, ?_⟩
  · intro vs w' hC hk
    (try simp [Know.add, depOn, Region.binds] at hk)
    go_simp
    exact ⟨Below.refl _ _, rfl⟩
  refine wpL_det ?_
  apply Exists.intro
  refine ⟨?_, ?_⟩
  · intro vs w' hC hk
    (try simp [Know.add, depOn, Region.binds] at hk)
    go_simp
    exact ⟨Below.refl _ _, rfl⟩
  refine wpL_det ?_
  apply Exists.intro
  refine ⟨?_, ?_⟩
  · intro vs w' hC hk
    (try simp [Know.add, depOn, Region.binds] at hk)
    go_simp
    exact ⟨Below.refl _ _, rfl⟩
  refine wpL_det ?_
  apply Exists.intro
  refine ⟨?_, ?_⟩
  · intro vs w' hC hk
    (try simp [Know.add, depOn, Region.binds] at hk)
    go_simp
    exact ⟨Below.refl _ _, rfl⟩
  refine wpL_det ?_
  apply Exists.intro
  refine ⟨?_, ?_⟩
  · intro vs w' hC hk
    (try simp [Know.add, depOn, Region.binds] at hk)
    go_simp
    exact ⟨Below.refl _ _, rfl⟩
  refine wpL_det ?_
  apply Exists.intro
  refine ⟨?_, ?_⟩
  · intro vs w' hC hk
    (try simp [Know.add, depOn, Region.binds] at hk)
    go_simp
    exact ⟨Below.refl _ _, rfl⟩
  refine wpL_det ?_
  apply Exists.intro
  refine ⟨?_, ?_⟩
  · intro vs w' hC hk
    (try simp [Know.add, depOn, Region.binds] at hk)
    go_simp
    exact ⟨Below.refl _ _, rfl⟩
  refine wpL_det ?_
  apply Exists.intro
  refine ⟨?_, ?_⟩
  · intro vs w' hC hk
    (try simp [Know.add, depOn, Region.binds] at hk)
    go_simp
    exact ⟨Below.refl _ _, rfl⟩
  refine wpL_det ?_
  apply Exists.intro
  refine ⟨?_, ?_⟩
  · intro vs w' hC hk
    (try simp [Know.add, depOn, Region.binds] at hk)
    go_simp
    refine (PV.out _).mono ?_
    rintro e w'' ⟨rfl, hb⟩
    first | exact ⟨rfl, hb⟩ | exact ⟨_, rfl, hb, rfl⟩
  refine wpL_det ?_
  apply Exists.intro
  refine ⟨?_, ?_⟩
  · intro vs w' hC hk
    (try simp [Know.add, depOn, Region.binds] at hk)
    go_simp
    exact ⟨Below.refl _ _, rfl⟩
  refine wpL_det ?_
  apply Exists.intro
  refine ⟨?_, ?_⟩
  · intro vs w' hC hk
    (try simp [Know.add, depOn, Region.binds] at hk)
    go_simp
    exact ⟨Below.refl _ _, rfl⟩
  refine wpL_det ?_
  apply Exists.intro
  refine ⟨?_, ?_⟩
  · intro vs w' hC hk
    (try simp [Know.add, depOn, Region.binds] at hk)
    go_simp
    exact ⟨Below.refl _ _, rfl⟩
  refine wpL_det ?_
  apply Exists.intro
  refine ⟨?_, ?_⟩
  · intro vs w' hC hk
    (try simp [Know.add, depOn, Region.binds] at hk)
    go_simp
    exact ⟨Below.refl _ _, rfl⟩
  refine wpL_step (NB #[.int .u8 (p : Int)] 1) (stab_NB _ _) ?_ ?_
  · intro vs w' hC hk
    (try simp [Know.add, depOn, Region.binds] at hk)
    go_simp
    exact ⟨(Below.refl _ _).alloc (Nat.le_refl _) _, _, rfl, heap_alloc_new w' _⟩
  refine wpL_det ?_
  apply Exists.intro
  refine ⟨?_, ?_⟩
  · intro vs w' hC hk
    have h20 : NB #[.int .u8 (p : Int)] 1 (vs 37) w' := hk.2 (by kernel_rfl)
    clear hk
    unfold NB at h20
    obtain ⟨b1, hv, hrow⟩ := h20
    have hcv := C3.out w' b1 hrow
    clear hrow
    go_simp
    exact ⟨Below.refl _ _, rfl⟩
  refine wpL_det ?_
  apply Exists.intro
  refine ⟨?_, ?_⟩
  · intro vs w' hC hk
    (try simp [Know.add, depOn, Region.binds] at hk)
    go_simp
    exact ⟨Below.refl _ _, rfl⟩
  refine wpL_det ?_
  apply Exists.intro
  refine ⟨?_, ?_⟩
  · intro vs w' hC hk
    (try simp [Know.add, depOn, Region.binds] at hk)
    go_simp
    exact ⟨Below.refl _ _, rfl⟩
  refine wpL_det ?_
  apply Exists.intro
  refine ⟨?_, ?_⟩
  · intro vs w' hC hk
    (try simp [Know.add, depOn, Region.binds] at hk)
    go_simp
    exact ⟨Below.refl _ _, rfl⟩
  refine wpL_nil ?_
  intro vs w' hC hk
  have h41 : vs 41 = .string (z0 ++ (y1 ++ i ++ y2 ++ v ++ y3 ++ y4)) := hk.2 rfl
  clear hk
  rw [E1.out] at h41
  clear f1 f2 f3 f4 f5 f6 r1 r2 r3 r4 r5
  go_wp2_with fail
  go_ret
  refine ⟨?_, below_step B0.out hC⟩
  go_simp
theorem wrJ (j : Nat) (h : j < 1000) : wrap64 ((j : Int) + 1) = ((j + 1 : Nat) : Int) := IntWalk.wrap64_in _ (by omega)
theorem kb_snoc (l : List Bool) (j : Nat) (h : j < l.length) : kb (l.take (j + 1)) = kb (l.take j) ++ ⟨#[if l[j] then 1 else 0]⟩ := by
  rw [List.take_succ_eq_append_getElem h]
  apply ByteArray.ext
  rw [ByteArray.data_append]
  simp only [kb, List.map_append, List.map_cons, List.map_nil]
  rw [← List.append_toArray]
set_option maxRecDepth 100000 in
set_option maxHeartbeats 8000000 in
theorem rb_5 (w : World) (to pl : Nat) (rk p : Int) (i v : ByteArray) (t n m cap : Nat) (oa : Option Addr) (l : List Bool) (hm : m = l.length) (hm6 : m < 256) (hto : to < 65536) (hpl : pl < 256) (hn : n < 18446744073709551616) (hx : ∀ j (h : j < l.length), ∃ b off, oa = some ⟨b, off, none⟩ ∧ w.cell? ⟨b, off + j, none⟩ = some (.bool l[j])) (z : ByteArray) (hz : Hid (z = wput 5 1 ++ (((txt (kb l) ++ wput to 2) ++ wput pl 1) ++ wput n 8))) :
    Calls Try.prog 25 #[.agg #[.int .i64 5, .int .i64 rk, .string i, .string v, .float .f64 t, .int .i64 p, .int .u64 (n : Int), .slice oa m cap, .int .i64 (to : Nat), .int .i64 (pl : Nat)]] w fun e w' => e = .returned (.string z) ∧ Below w.heap.size w w' := by
  have b0 := alloc_below w (.cells #[.int .i64 5, .int .i64 rk, .string i, .string v, .float .f64 t, .int .i64 p, .int .u64 (n : Int), .slice oa m cap, .int .i64 (to : Nat), .int .i64 (pl : Nat)] 47)
  have n0 := heap_alloc_new w (.cells #[.int .i64 5, .int .i64 rk, .string i, .string v, .float .f64 t, .int .i64 p, .int .u64 (n : Int), .slice oa m cap, .int .i64 (to : Nat), .int .i64 (pl : Nat)] 47)
  obtain ⟨c0, c1, c2, c3, c4, c5, c6, c7, c8, c9⟩ := ract_cells n0
  have n1 := heap_alloc_new (w.alloc (.cells #[.int .i64 5, .int .i64 rk, .string i, .string v, .float .f64 t, .int .i64 p, .int .u64 (n : Int), .slice oa m cap, .int .i64 (to : Nat), .int .i64 (pl : Nat)] 47)) (.cells #[.int .u8 5] 5)
  have cv := conv1 ((w.alloc (.cells #[.int .i64 5, .int .i64 rk, .string i, .string v, .float .f64 t, .int .i64 p, .int .u64 (n : Int), .slice oa m cap, .int .i64 (to : Nat), .int .i64 (pl : Nat)] 47)).alloc (.cells #[.int .u8 5] 5)) (w.heap.size + 1) 5 5 rfl (by decide) (by rw [show w.heap.size + 1 = (w.alloc (.cells #[.int .i64 5, .int .i64 rk, .string i, .string v, .float .f64 t, .int .i64 p, .int .u64 (n : Int), .slice oa m cap, .int .i64 (to : Nat), .int .i64 (pl : Nat)] 47)).heap.size by rw [alloc_sizeB]]; exact n1)
  have b1 := alloc_below (w.alloc (.cells #[.int .i64 5, .int .i64 rk, .string i, .string v, .float .f64 t, .int .i64 p, .int .u64 (n : Int), .slice oa m cap, .int .i64 (to : Nat), .int .i64 (pl : Nat)] 47)) (.cells #[.int .u8 5] 5)
  obtain ⟨z0, hz0⟩ : ∃ z, z = wput 5 1 := ⟨_, rfl⟩
  have s0 : z0.size = 1 := by rw [hz0, wput_size]
  rw [← hz0] at cv hz
  have d := fun W (hb : Below ((w.alloc (.cells #[.int .i64 5, .int .i64 rk, .string i, .string v, .float .f64 t, .int .i64 p, .int .u64 (n : Int), .slice oa m cap, .int .i64 (to : Nat), .int .i64 (pl : Nat)] 47)).alloc (.cells #[.int .u8 5] 5)).heap.size ((w.alloc (.cells #[.int .i64 5, .int .i64 rk, .string i, .string v, .float .f64 t, .int .i64 p, .int .u64 (n : Int), .slice oa m cap, .int .i64 (to : Nat), .int .i64 (pl : Nat)] 47)).alloc (.cells #[.int .u8 5] 5)) W) => ract_cells (b_cells (b_cells n0 _ b1) W hb)
  have D := Lib.hid d
  have B0 := Lib.hid (stepQ b0 b1)
  have N0 := Lib.hid n0
  clear b0 b1 n0 n1 d hz0
  have m1 := alloc_below ((w.alloc (.cells #[.int .i64 5, .int .i64 rk, .string i, .string v, .float .f64 t, .int .i64 p, .int .u64 (n : Int), .slice oa m cap, .int .i64 (to : Nat), .int .i64 (pl : Nat)] 47)).alloc (.cells #[.int .u8 5] 5)) (.cells #[.int .u8 (m : Int)] 5)
  have cv2 := conv1 (((w.alloc (.cells #[.int .i64 5, .int .i64 rk, .string i, .string v, .float .f64 t, .int .i64 p, .int .u64 (n : Int), .slice oa m cap, .int .i64 (to : Nat), .int .i64 (pl : Nat)] 47)).alloc (.cells #[.int .u8 5] 5)).alloc (.cells #[.int .u8 (m : Int)] 5)) (w.heap.size + 2) (m : Int) m rfl hm6 (by
    have := heap_alloc_new ((w.alloc (.cells #[.int .i64 5, .int .i64 rk, .string i, .string v, .float .f64 t, .int .i64 p, .int .u64 (n : Int), .slice oa m cap, .int .i64 (to : Nat), .int .i64 (pl : Nat)] 47)).alloc (.cells #[.int .u8 5] 5)) (.cells #[.int .u8 (m : Int)] 5)
    rw [alloc_sizeB, alloc_sizeB] at this
    exact this)
  have pv := fun W => rPut_val to 2 W (wput to 2) (by omega) (Lib.hid rfl)
  have pv2 := fun W => rPut_val n 8 W (wput n 8) hn (Lib.hid rfl)
  obtain ⟨y1, hy1⟩ : ∃ y, y = wput m 1 := ⟨_, rfl⟩
  obtain ⟨y2, hy2⟩ : ∃ y, y = wput to 2 := ⟨_, rfl⟩
  obtain ⟨y3, hy3⟩ : ∃ y, y = wput pl 1 := ⟨_, rfl⟩
  obtain ⟨y4, hy4⟩ : ∃ y, y = wput n 8 := ⟨_, rfl⟩
  have s1 : y1.size = 1 := by rw [hy1, wput_size]
  have s2 : y2.size = 2 := by rw [hy2, wput_size]
  have s3 : y3.size = 1 := by rw [hy3, wput_size]
  have s4 : y4.size = 8 := by rw [hy4, wput_size]
  have e1 : ((z0 ++ y1) ++ kb l) ++ (y2 ++ y3 ++ y4) = z := by
    rw [hz.out, hy1, hy2, hy3, hy4, hm]
    unfold txt
    rw [kb_size]
    simp only [ByteArray.append_assoc]
  have C1 : Hid (∀ W b, W.heap[b]? = some (.cells #[.int .u8 (pl : Int)] 5 (0, 0)) → (convert 80 9 (.slice (some ⟨b, 0, none⟩) 1 1)).run Try.prog W = .ok (.string y3) W) := Lib.hid (fun W b h => by rw [hy3]; exact conv1 W b _ pl rfl hpl h)
  rw [← hy1] at cv2
  rw [← hy2] at pv
  rw [← hy4] at pv2
  have PV := Lib.hid pv
  have PV2 := Lib.hid pv2
  have E1 := Lib.hid e1
  have HX := Lib.hid hx
  have HM := Lib.hid hm
  have HM6 := Lib.hid hm6
  have w1 := IntWalk.u8_in (m : Int) (by omega)
  have w2 := IntWalk.u8_in (pl : Int) (by omega)
  have w3 := IntWalk.u64_in (to : Int) (by omega)
  have f0 : (9223372036854775807 < z0.size + y1.size) = False := eq_false (by omega)
  have f1 : (9223372036854775807 < y2.size + y3.size) = False := eq_false (by omega)
  have f2 : (9223372036854775807 < y2.size + y3.size + y4.size) = False := eq_false (by omega)
  have SZ : Hid ((z0 ++ y1).size = 2 ∧ y2.size + y3.size + y4.size = 11) := Lib.hid ⟨by rw [ByteArray.size_append, s0, s1], by omega⟩
  clear pv pv2 e1 hy1 hy2 hy3 hy4 hz hm hm6 hto hpl hn hx s0 s1 s2 s3 s4
  go_enter Try.func25, Try.ntmps25
  go_wp2_with fail
  obtain ⟨q, hq⟩ : ∃ q, q = z0 ++ y1 := ⟨_, rfl⟩
  rw [← hq] at E1 SZ ⊢
  obtain ⟨W1, hW1⟩ : ∃ W, W = ((w.alloc (.cells #[.int .i64 5, .int .i64 rk, .string i, .string v, .float .f64 t, .int .i64 p, .int .u64 (n : Int), .slice oa m cap, .int .i64 (to : Nat), .int .i64 (pl : Nat)] 47)).alloc (.cells #[.int .u8 5] 5)) := ⟨_, rfl⟩
  rw [← hW1] at D B0 m1 ⊢
  have M1 := Lib.hid m1
  clear c0 c1 c2 c3 c4 c5 c6 c7 c8 c9 cv cv2 hW1 m1 hq f0
  go_loopw [3, 4] (fun s i wr => ∃ j : Nat, j ≤ m ∧ i = .int .i64 j ∧ s = .string (q ++ kb (l.take j)) ∧ Below W1.heap.size W1 wr) (fun _ i _ => m - (intOf i).toNat)
  case atStart => exact ⟨0, by omega, rfl, by rw [show kb (l.take 0) = ByteArray.empty from rfl, ByteArray.append_empty], M1.out⟩
  case round =>
    obtain ⟨j, hj, rfl, rfl, hb⟩ := hrel
    obtain ⟨d0, d1, d2, d3, d4, d5, d6, d7, d8, d9⟩ := D.out wr hb
    have HB := Lib.hid hb
    obtain ⟨y, hy⟩ : ∃ y, y = q ++ kb (l.take j) := ⟨_, rfl⟩
    have sy : y.size = 2 + j := by rw [hy, ByteArray.size_append, SZ.out.1, kb_size, List.length_take, ← HM.out, Nat.min_eq_left hj]
    rw [← hy]
    have HY := Lib.hid hy
    clear hy hb
    by_cases hlt : j < m
    · have hjl : j < l.length := by have := HM.out; omega
      have hkn : (j : Int) < (m : Int) := by omega
      obtain ⟨b, off, rfl, hc⟩ := HX.out j hjl
      have q1 := ((below_step B0.out HB.out).cell (p := ⟨b, off + j, none⟩) (block_lt_of_cell hc)).trans hc
      have KS := Lib.hid (kb_snoc l j hjl)
      have WJ := (wrJ j (by have := HM6.out; omega))
      have f3 : (9223372036854775807 < y.size + 1) = False := eq_false (by have := HM6.out; omega)
      clear hc sy
      obtain ⟨x, hx⟩ : ∃ x, x = l[j] := ⟨_, rfl⟩
      rw [← hx] at q1 KS
      clear hx
      cases x
      · go_wp2_with fail
        go_roundw
        case rel => exact ⟨j + 1, by omega, by first | rfl | (rw [WJ]) | go_num, by rw [KS.out, HY.out, ByteArray.append_assoc]; rfl, HB.out⟩
        case measure => first | (rw [WJ]; simp only [intOf, Int.toNat_natCast]; omega) | (simp [intOf]; omega)
      · go_wp2_with fail
        go_roundw
        case rel => exact ⟨j + 1, by omega, by first | rfl | (rw [WJ]) | go_num, by rw [KS.out, HY.out, ByteArray.append_assoc]; rfl, HB.out⟩
        case measure => first | (rw [WJ]; simp only [intOf, Int.toNat_natCast]; omega) | (simp [intOf]; omega)
    · have hkn : ¬ (j : Int) < (m : Int) := by omega
      have f3 : (9223372036854775807 < y.size + (y2.size + y3.size + y4.size)) = False := eq_false (by have := HM6.out; have := SZ.out.2; omega)
      have e2 : y ++ (y2 ++ y3 ++ y4) = z := by
        rw [← E1.out, HY.out, List.take_of_length_le (by have := HM.out; omega)]
      have E2 := Lib.hid e2
      clear e2 sy hj hlt
      go_wp2_with fail
      clear d0 d1 d2 d3 d4 d5 d6 d7 d8 d9
      have r1 := fun W h => (D.out W (below_step HB.out h)).2.2.2.2.2.2.2.2.1
      have r2 := fun W h => (D.out W (below_step HB.out h)).2.2.2.2.2.2.2.2.2
      have r3 := fun W h => (D.out W (below_step HB.out h)).2.2.2.2.2.2.1
      refine wp_region_loose_fast (by kernel_rfl) (by kernel_rfl) ?_
      refine wpL_det ?_
      apply Exists.intro
      refine ⟨?_, ?_⟩
      · intro vs w' hC hk
        (try simp [Know.add, depOn, Region.binds] at hk)
        go_simp
        exact ⟨Below.refl _ _, rfl⟩
      refine wpL_det ?_
      apply Exists.intro
      refine ⟨?_, ?_⟩
      · intro vs w' hC hk
        (try simp [Know.add, depOn, Region.binds] at hk)
        go_simp
        exact ⟨Below.refl _ _, rfl⟩
      refine wpL_det ?_
      apply Exists.intro
      refine ⟨?_, ?_⟩
      · intro vs w' hC hk
        (try simp [Know.add, depOn, Region.binds] at hk)
        go_simp
        exact ⟨Below.refl _ _, rfl⟩
      refine wpL_det ?_
      apply Exists.intro
      refine ⟨?_, ?_⟩
      · intro vs w' hC hk
        (try simp [Know.add, depOn, Region.binds] at hk)
        go_simp
        exact ⟨Below.refl _ _, rfl⟩
      refine wpL_det ?_
      apply Exists.intro
      refine ⟨?_, ?_⟩
      · intro vs w' hC hk
        (try simp [Know.add, depOn, Region.binds] at hk)
        go_simp
        refine (PV.out _).mono ?_
        rintro e w'' ⟨rfl, hb⟩
        first | exact ⟨rfl, hb⟩ | exact ⟨_, rfl, hb, rfl⟩
      refine wpL_det ?_
      apply Exists.intro
      refine ⟨?_, ?_⟩
      · intro vs w' hC hk
        (try simp [Know.add, depOn, Region.binds] at hk)
        go_simp
        exact ⟨Below.refl _ _, rfl⟩
      refine wpL_det ?_
      apply Exists.intro
      refine ⟨?_, ?_⟩
      · intro vs w' hC hk
        (try simp [Know.add, depOn, Region.binds] at hk)
        go_simp
        exact ⟨Below.refl _ _, rfl⟩
      refine wpL_det ?_
      apply Exists.intro
      refine ⟨?_, ?_⟩
      · intro vs w' hC hk
        (try simp [Know.add, depOn, Region.binds] at hk)
        go_simp
        exact ⟨Below.refl _ _, rfl⟩
      refine wpL_step (NB #[.int .u8 (pl : Int)] 1) (stab_NB _ _) ?_ ?_
      · intro vs w' hC hk
        (try simp [Know.add, depOn, Region.binds] at hk)
        go_simp
        exact ⟨(Below.refl _ _).alloc (Nat.le_refl _) _, _, rfl, heap_alloc_new w' _⟩
      refine wpL_det ?_
      apply Exists.intro
      refine ⟨?_, ?_⟩
      · intro vs w' hC hk
        have h20 : NB #[.int .u8 (pl : Int)] 1 (vs 8) w' := hk.2 (by kernel_rfl)
        clear hk
        unfold NB at h20
        obtain ⟨b1, hv, hrow⟩ := h20
        have hcv := C1.out w' b1 hrow
        clear hrow
        go_simp
        exact ⟨Below.refl _ _, rfl⟩
      refine wpL_det ?_
      apply Exists.intro
      refine ⟨?_, ?_⟩
      · intro vs w' hC hk
        (try simp [Know.add, depOn, Region.binds] at hk)
        go_simp
        exact ⟨Below.refl _ _, rfl⟩
      refine wpL_det ?_
      apply Exists.intro
      refine ⟨?_, ?_⟩
      · intro vs w' hC hk
        (try simp [Know.add, depOn, Region.binds] at hk)
        go_simp
        exact ⟨Below.refl _ _, rfl⟩
      refine wpL_det ?_
      apply Exists.intro
      refine ⟨?_, ?_⟩
      · intro vs w' hC hk
        (try simp [Know.add, depOn, Region.binds] at hk)
        go_simp
        exact ⟨Below.refl _ _, rfl⟩
      refine wpL_det ?_
      apply Exists.intro
      refine ⟨?_, ?_⟩
      · intro vs w' hC hk
        (try simp [Know.add, depOn, Region.binds] at hk)
        go_simp
        refine (PV2.out _).mono ?_
        rintro e w'' ⟨rfl, hb⟩
        first | exact ⟨rfl, hb⟩ | exact ⟨_, rfl, hb, rfl⟩
      refine wpL_det ?_
      apply Exists.intro
      refine ⟨?_, ?_⟩
      · intro vs w' hC hk
        (try simp [Know.add, depOn, Region.binds] at hk)
        go_simp
        exact ⟨Below.refl _ _, rfl⟩
      refine wpL_det ?_
      apply Exists.intro
      refine ⟨?_, ?_⟩
      · intro vs w' hC hk
        (try simp [Know.add, depOn, Region.binds] at hk)
        go_simp
        exact ⟨Below.refl _ _, rfl⟩
      refine wpL_det ?_
      apply Exists.intro
      refine ⟨?_, ?_⟩
      · intro vs w' hC hk
        (try simp [Know.add, depOn, Region.binds] at hk)
        go_simp
        exact ⟨Below.refl _ _, rfl⟩
      refine wpL_nil ?_
      intro vs w' hC hk
      have h16 : vs 16 = .string (y ++ (y2 ++ y3 ++ y4)) := hk.2 rfl
      clear hk
      rw [E2.out] at h16
      clear f1 f2 f3 r1 r2 r3
      go_wp2_with fail
      go_ret
      refine ⟨?_, below_step B0.out (below_step HB.out hC)⟩
      go_simp
end Go.Proofs.Ytjkiofgllmjkcaa.G
