/- The reference's form of an act. -/
import Derived.Test.YtjkiofgllmjkcaaSa
import Derived.Test.YtjkiofgllmjkcaaGTail
import Derived.Test.YtjkiofgllmjkcaaGFast
import Derived.BigQuiet
namespace Go.Proofs.Ytjkiofgllmjkcaa.G
open Go.RowKit Go.Proofs.Ytjkiofgllmjkcaa.WordPlain Go.Proofs.Ytjkiofgllmjkcaa.Loose
set_option linter.unusedVariables false
set_option linter.unusedSimpArgs false

set_option maxRecDepth 100000 in
theorem Req_val (rk : Int) (i v : ByteArray) (t : Nat) (w : World) :
    Calls Try.prog 37 #[.agg #[.int .i64 rk, .string i, .string v, .float .f64 t]] w fun e w' => e = .returned (.agg #[.int .i64 rk, .string i, .string v, .float .f64 t]) ∧ Below w.heap.size w w' := by
  obtain ⟨n1, n2, n3⟩ := two_newA w (.cells #[.int .i64 rk, .string i, .string v, .float .f64 t] 25) (.cells #[.int .i64 0, .string (ByteArray.mk #[]), .string (ByteArray.mk #[]), .float .f64 0] 45)
  have N2 := Lib.hid n2
  have N3 := Lib.hid (below_setRow (g := w.heap.size + 1) n3 (Nat.le_add_right _ _) #[.int .i64 rk, .string i, .string v, .float .f64 t])
  have R2 := Lib.hid (setRow_heap _ _ _ #[.int .i64 rk, .string i, .string v, .float .f64 t] _ _ n2)
  clear n1 n2 n3
  go_enter Try.func37, Try.ntmps37
  go_wp2_with (refine wpList_store_row rfl 45 _ _ rfl (w.heap.size + 1) #[.int .i64 rk, .string i, .string v, .float .f64 t] rfl rfl _ _ N2.out (by kernel_rfl) rfl (by kernel_rfl) ?_)
  refine bodyPost_ret (v := .agg #[.int .i64 rk, .string i, .string v, .float .f64 t]) ?_ rfl ⟨rfl, N3.out⟩
  exact results_cell_row (p := 2) (ty := 45) rfl _ _ (w.heap.size + 1) 45 _ (0, 0) _ rfl R2.out Try.underlying45 rfl (by kernel_rfl)

set_option maxRecDepth 100000 in
set_option maxHeartbeats 2000000 in
theorem Ref_form (k rk p to pl : Int) (i v : ByteArray) (t n m cap : Nat) (oa : Option Addr) (w : World) :
    Calls Try.prog 18 #[.agg #[.int .i64 k, .int .i64 rk, .string i, .string v, .float .f64 t, .int .i64 p, .int .u64 n, .slice oa m cap, .int .i64 to, .int .i64 pl]] w fun e w' => e = .returned (.agg #[.int .i64 k, .int .i64 rk, .string i, .string v, .float .f64 t, .int .i64 p, .int .u64 n, .slice oa m cap, .int .i64 to, .int .i64 pl]) ∧ Below w.heap.size w w' := by
  obtain ⟨n1, n2, n3⟩ := two_newA w (.cells #[.int .i64 k, .int .i64 rk, .string i, .string v, .float .f64 t, .int .i64 p, .int .u64 n, .slice oa m cap, .int .i64 to, .int .i64 pl] 29) (.cells #[.int .i64 0, .int .i64 0, .string (ByteArray.mk #[]), .string (ByteArray.mk #[]), .float .f64 0, .int .i64 0, .int .u64 0, .slice none 0 0, .int .i64 0, .int .i64 0] 47)
  obtain ⟨W, hW⟩ : ∃ W, W = (w.alloc (.cells #[.int .i64 k, .int .i64 rk, .string i, .string v, .float .f64 t, .int .i64 p, .int .u64 n, .slice oa m cap, .int .i64 to, .int .i64 pl] 29)).alloc (.cells #[.int .i64 0, .int .i64 0, .string (ByteArray.mk #[]), .string (ByteArray.mk #[]), .float .f64 0, .int .i64 0, .int .u64 0, .slice none 0 0, .int .i64 0, .int .i64 0] 47) := ⟨_, rfl⟩
  rw [← hW] at n1 n2 n3
  have HW := Lib.hid hW
  have RA : ∀ V, Below W.heap.size W V → V.heap[w.heap.size]? = some (.cells #[.int .i64 k, .int .i64 rk, .string i, .string v, .float .f64 t, .int .i64 p, .int .u64 n, .slice oa m cap, .int .i64 to, .int .i64 pl] 29 (0, 0)) := fun V h => (h.block _ (lt_of_rowS n1)).trans n1
  have RB : Hid (∀ V, Below W.heap.size W V → V.heap[w.heap.size + 1]? = some (.cells #[.int .i64 0, .int .i64 0, .string (ByteArray.mk #[]), .string (ByteArray.mk #[]), .float .f64 0, .int .i64 0, .int .u64 0, .slice none 0 0, .int .i64 0, .int .i64 0] 47 (0, 0))) := Lib.hid (fun V h => (h.block _ (lt_of_rowS n2)).trans n2)
  have N3 := Lib.hid n3
  have t0 : ∀ V, Below W.heap.size W V → V.cell? ⟨w.heap.size, 0, none⟩ = some (.int .i64 k) := fun V h => (cell_of_row _ _ 0 _ _ _ (RA V h)).trans rfl
  have t1 : ∀ V, Below W.heap.size W V → V.cell? ⟨w.heap.size, 1, none⟩ = some (.int .i64 rk) := fun V h => (cell_of_row _ _ 1 _ _ _ (RA V h)).trans rfl
  have t2 : ∀ V, Below W.heap.size W V → V.cell? ⟨w.heap.size, 2, none⟩ = some (.string i) := fun V h => (cell_of_row _ _ 2 _ _ _ (RA V h)).trans rfl
  have t3 : ∀ V, Below W.heap.size W V → V.cell? ⟨w.heap.size, 3, none⟩ = some (.string v) := fun V h => (cell_of_row _ _ 3 _ _ _ (RA V h)).trans rfl
  have t4 : ∀ V, Below W.heap.size W V → V.cell? ⟨w.heap.size, 4, none⟩ = some (.float .f64 t) := fun V h => (cell_of_row _ _ 4 _ _ _ (RA V h)).trans rfl
  have t5 : ∀ V, Below W.heap.size W V → V.cell? ⟨w.heap.size, 5, none⟩ = some (.int .i64 p) := fun V h => (cell_of_row _ _ 5 _ _ _ (RA V h)).trans rfl
  have t6 : ∀ V, Below W.heap.size W V → V.cell? ⟨w.heap.size, 6, none⟩ = some (.int .u64 n) := fun V h => (cell_of_row _ _ 6 _ _ _ (RA V h)).trans rfl
  have t7 : ∀ V, Below W.heap.size W V → V.cell? ⟨w.heap.size, 7, none⟩ = some (.slice oa m cap) := fun V h => (cell_of_row _ _ 7 _ _ _ (RA V h)).trans rfl
  have t8 : ∀ V, Below W.heap.size W V → V.cell? ⟨w.heap.size, 8, none⟩ = some (.int .i64 to) := fun V h => (cell_of_row _ _ 8 _ _ _ (RA V h)).trans rfl
  have t9 : ∀ V, Below W.heap.size W V → V.cell? ⟨w.heap.size, 9, none⟩ = some (.int .i64 pl) := fun V h => (cell_of_row _ _ 9 _ _ _ (RA V h)).trans rfl
  have ONE : Hid ((#[.int .i64 k, .int .i64 rk, .string i, .string v, .float .f64 t, .int .i64 p, .int .u64 n, .slice oa m cap, .int .i64 to, .int .i64 pl] : Array Value).all (·.oneCell') = true) := Lib.hid (by simp [Value.oneCell'])
  clear n1 n2 n3 hW RA
  go_enter Try.func18, Try.ntmps18
  go_wp2_with fail
  rw [← HW.out]
  refine wp_region_tail [0, 1, 2, 3, 4, 5, 6, 7, 8, 9, 10, 11, 12, 13, 14, 15] 16 1 (by kernel_rfl) (by kernel_rfl) (by kernel_rfl) ?_
  refine wpM_det rfl ?_
  apply Exists.intro
  refine ⟨?_, ?_⟩
  · intro vs w' hC hk
    (try simp [Know.add, depOn, Region.binds] at hk)
    go_simp
    exact ⟨Below.refl _ _, rfl⟩
  refine wpM_det rfl ?_
  apply Exists.intro
  refine ⟨?_, ?_⟩
  · intro vs w' hC hk
    (try simp [Know.add, depOn, Region.binds] at hk)
    go_simp
    exact ⟨Below.refl _ _, rfl⟩
  refine wpM_det rfl ?_
  apply Exists.intro
  refine ⟨?_, ?_⟩
  · intro vs w' hC hk
    (try simp [Know.add, depOn, Region.binds] at hk)
    go_simp
    exact ⟨Below.refl _ _, rfl⟩
  refine wpM_det rfl ?_
  apply Exists.intro
  refine ⟨?_, ?_⟩
  · intro vs w' hC hk
    (try simp [Know.add, depOn, Region.binds] at hk)
    go_simp
    exact ⟨Below.refl _ _, rfl⟩
  refine wpM_det rfl ?_
  apply Exists.intro
  refine ⟨?_, ?_⟩
  · intro vs w' hC hk
    (try simp [Know.add, depOn, Region.binds] at hk)
    go_simp
    refine (Req_val rk i v t _).mono ?_
    rintro e w'' ⟨rfl, hb⟩
    first | exact ⟨rfl, hb⟩ | exact ⟨_, rfl, hb, rfl⟩
  refine wpM_det rfl ?_
  apply Exists.intro
  refine ⟨?_, ?_⟩
  · intro vs w' hC hk
    (try simp [Know.add, depOn, Region.binds] at hk)
    go_simp
    exact ⟨Below.refl _ _, rfl⟩
  refine wpM_det rfl ?_
  apply Exists.intro
  refine ⟨?_, ?_⟩
  · intro vs w' hC hk
    (try simp [Know.add, depOn, Region.binds] at hk)
    go_simp
    exact ⟨Below.refl _ _, rfl⟩
  refine wpM_det rfl ?_
  apply Exists.intro
  refine ⟨?_, ?_⟩
  · intro vs w' hC hk
    (try simp [Know.add, depOn, Region.binds] at hk)
    go_simp
    exact ⟨Below.refl _ _, rfl⟩
  refine wpM_det rfl ?_
  apply Exists.intro
  refine ⟨?_, ?_⟩
  · intro vs w' hC hk
    (try simp [Know.add, depOn, Region.binds] at hk)
    go_simp
    exact ⟨Below.refl _ _, rfl⟩
  refine wpM_det rfl ?_
  apply Exists.intro
  refine ⟨?_, ?_⟩
  · intro vs w' hC hk
    (try simp [Know.add, depOn, Region.binds] at hk)
    go_simp
    exact ⟨Below.refl _ _, rfl⟩
  refine wpM_det rfl ?_
  apply Exists.intro
  refine ⟨?_, ?_⟩
  · intro vs w' hC hk
    (try simp [Know.add, depOn, Region.binds] at hk)
    go_simp
    exact ⟨Below.refl _ _, rfl⟩
  refine wpM_det rfl ?_
  apply Exists.intro
  refine ⟨?_, ?_⟩
  · intro vs w' hC hk
    (try simp [Know.add, depOn, Region.binds] at hk)
    go_simp
    exact ⟨Below.refl _ _, rfl⟩
  refine wpM_det rfl ?_
  apply Exists.intro
  refine ⟨?_, ?_⟩
  · intro vs w' hC hk
    (try simp [Know.add, depOn, Region.binds] at hk)
    go_simp
    exact ⟨Below.refl _ _, rfl⟩
  refine wpM_det rfl ?_
  apply Exists.intro
  refine ⟨?_, ?_⟩
  · intro vs w' hC hk
    (try simp [Know.add, depOn, Region.binds] at hk)
    go_simp
    exact ⟨Below.refl _ _, rfl⟩
  refine wpM_det rfl ?_
  apply Exists.intro
  refine ⟨?_, ?_⟩
  · intro vs w' hC hk
    (try simp [Know.add, depOn, Region.binds] at hk)
    go_simp
    exact ⟨Below.refl _ _, rfl⟩
  refine wpM_det rfl ?_
  apply Exists.intro
  refine ⟨?_, ?_⟩
  · intro vs w' hC hk
    (try simp [Know.add, depOn, Region.binds] at hk)
    go_simp
    exact ⟨Below.refl _ _, rfl⟩
  refine wpM_nil ?_
  intro vs w' hC hk
  have h15 : vs 15 = .agg #[.int .i64 k, .int .i64 rk, .string i, .string v, .float .f64 t, .int .i64 p, .int .u64 n, .slice oa m cap, .int .i64 to, .int .i64 pl] := hk.2 rfl
  clear hk t0 t1 t2 t3 t4 t5 t6 t7 t8 t9
  have hrow := RB.out w' hC
  have hrow2 := setRow_heap _ _ _ #[.int .i64 k, .int .i64 rk, .string i, .string v, .float .f64 t, .int .i64 p, .int .u64 n, .slice oa m cap, .int .i64 to, .int .i64 pl] _ _ hrow
  have hbel := below_setRow (g := w.heap.size + 1) (below_step N3.out hC) (Nat.le_add_right _ _) #[.int .i64 k, .int .i64 rk, .string i, .string v, .float .f64 t, .int .i64 p, .int .u64 n, .slice oa m cap, .int .i64 to, .int .i64 pl]
  go_simp
  refine wpAny_one 16 ?_ rfl ?_
  · kernel_rfl
  intro K hK
  rw [if_pos (by rfl)]
  refine wp_store_row 47 _ _ rfl (w.heap.size + 1) #[.int .i64 k, .int .i64 rk, .string i, .string v, .float .f64 t, .int .i64 p, .int .u64 n, .slice oa m cap, .int .i64 to, .int .i64 pl] rfl rfl _ _ hrow (by kernel_rfl) rfl ONE.out ?_
  refine hK _ _ ?_
  clear hK K
  refine wpAny_done (by kernel_rfl) ?_ _
  clear h15
  go_wp2_with fail
  refine bodyPost_ret (v := .agg #[.int .i64 k, .int .i64 rk, .string i, .string v, .float .f64 t, .int .i64 p, .int .u64 n, .slice oa m cap, .int .i64 to, .int .i64 pl]) ?_ rfl ⟨rfl, hbel⟩
  exact results_cell_row (p := 2) (ty := 47) rfl _ _ (w.heap.size + 1) 47 _ (0, 0) _ rfl hrow2 Try.underlying47 rfl (by kernel_rfl)
theorem Ref_val (a : Ac) (vk : Value) (w : World) (h : Sb w vk a.keep) :
    Calls Try.prog 18 #[.agg (a.row vk)] w fun e w' => e = .returned (.agg (a.row vk)) ∧ Below w.heap.size w w' := by
  obtain ⟨oa, cap, rfl⟩ := h.form
  exact Ref_form a.kind a.rk a.pick a.torn a.pl a.id a.va a.ttl a.n a.keep.length cap oa w
end Go.Proofs.Ytjkiofgllmjkcaa.G
