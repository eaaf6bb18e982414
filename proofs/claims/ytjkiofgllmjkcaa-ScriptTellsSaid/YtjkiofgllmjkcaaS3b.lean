/- The same acts? Unlike in one of the last fields, or alike. -/
import Derived.Test.YtjkiofgllmjkcaaS3
import Derived.Test.YtjkiofgllmjkcaaGFast
import Derived.BigQuiet
namespace Go.Proofs.Ytjkiofgllmjkcaa.G
open Go.RowKit
set_option linter.unusedVariables false
set_option linter.unusedSimpArgs false

set_option maxRecDepth 100000 in
set_option maxHeartbeats 2000000 in
theorem same_7 (k rk p to pl : Int) (i v : ByteArray) (t n m cap : Nat) (oa : Option Addr) (k' rk' p' to' pl' : Int) (i' v' : ByteArray) (t' n' m' cap' : Nat) (oa' : Option Addr) (w : World) (f0 : (k == k') = true) (f1 : (rk == rk') = true) (f2 : (i.toList == i'.toList) = true) (f3 : (v.toList == v'.toList) = true) (f4 : ((t : Int) == (t' : Int)) = true) (f5 : (p == p') = true) (f6 : ((n : Int) == (n' : Int)) = true) (HK : Hid (∀ W, Below w.heap.size w W → Calls Try.prog 38 #[.slice oa m cap, .slice oa' m' cap'] W fun e w' => e = .returned (.bool false) ∧ Below W.heap.size W w')) :
    Calls Try.prog 19 #[.agg #[.int .i64 k, .int .i64 rk, .string i, .string v, .float .f64 t, .int .i64 p, .int .u64 n, .slice oa m cap, .int .i64 to, .int .i64 pl], .agg #[.int .i64 k', .int .i64 rk', .string i', .string v', .float .f64 t', .int .i64 p', .int .u64 n', .slice oa' m' cap', .int .i64 to', .int .i64 pl']] w fun e w' => e = .returned (.bool false) ∧ Below w.heap.size w w' := by
  have hz : (zeroValue 25).run Try.prog w = .ok (.agg #[.int .i64 0, .string (ByteArray.mk #[]), .string (ByteArray.mk #[]), .float .f64 0]) w := by kernel_rfl
  obtain ⟨n1, n2, n3⟩ := two_newA w (.cells #[.int .i64 k, .int .i64 rk, .string i, .string v, .float .f64 t, .int .i64 p, .int .u64 n, .slice oa m cap, .int .i64 to, .int .i64 pl] 29) (.cells #[.int .i64 k', .int .i64 rk', .string i', .string v', .float .f64 t', .int .i64 p', .int .u64 n', .slice oa' m' cap', .int .i64 to', .int .i64 pl'] 29)
  obtain ⟨W, hW⟩ : ∃ W, W = (w.alloc (.cells #[.int .i64 k, .int .i64 rk, .string i, .string v, .float .f64 t, .int .i64 p, .int .u64 n, .slice oa m cap, .int .i64 to, .int .i64 pl] 29)).alloc (.cells #[.int .i64 k', .int .i64 rk', .string i', .string v', .float .f64 t', .int .i64 p', .int .u64 n', .slice oa' m' cap', .int .i64 to', .int .i64 pl'] 29) := ⟨_, rfl⟩
  rw [← hW] at n1 n2 n3
  have HW := Lib.hid hW
  have RA : Hid (∀ V, Below W.heap.size W V → V.heap[w.heap.size]? = some (.cells #[.int .i64 k, .int .i64 rk, .string i, .string v, .float .f64 t, .int .i64 p, .int .u64 n, .slice oa m cap, .int .i64 to, .int .i64 pl] 29 (0, 0))) := Lib.hid (fun V h => (h.block _ (lt_of_rowS n1)).trans n1)
  have RB : Hid (∀ V, Below W.heap.size W V → V.heap[w.heap.size + 1]? = some (.cells #[.int .i64 k', .int .i64 rk', .string i', .string v', .float .f64 t', .int .i64 p', .int .u64 n', .slice oa' m' cap', .int .i64 to', .int .i64 pl'] 29 (0, 0))) := Lib.hid (fun V h => (h.block _ (lt_of_rowS n2)).trans n2)
  have N3 := Lib.hid n3
  clear n1 n2 n3 hW
  have fb := bitsS t
  have fb' := bitsS t'
  go_enter Try.func19, Try.ntmps19
  go_wp2_with fail
  rw [← HW.out]
  refine wp_region_held (S := fun V => Below W.heap.size W V) (by kernel_rfl) ?_
  have hS0 : Below W.heap.size W { W with drawn := W.drawn + 1 } := ⟨rfl, rfl, rfl, Nat.le_refl _, fun _ _ => rfl⟩
  have t1 : ∀ V, Below W.heap.size W V → V.cell? ⟨w.heap.size, 1, none⟩ = some (.int .i64 rk) := fun V h => (cells10 (RA.out V h)).2.1
  have t2 : ∀ V, Below W.heap.size W V → V.cell? ⟨w.heap.size, 2, none⟩ = some (.string i) := fun V h => (cells10 (RA.out V h)).2.2.1
  have t3 : ∀ V, Below W.heap.size W V → V.cell? ⟨w.heap.size, 3, none⟩ = some (.string v) := fun V h => (cells10 (RA.out V h)).2.2.2.1
  have t4 : ∀ V, Below W.heap.size W V → V.cell? ⟨w.heap.size, 4, none⟩ = some (.float .f64 t) := fun V h => (cells10 (RA.out V h)).2.2.2.2.1
  have u1 : ∀ V, Below W.heap.size W V → V.cell? ⟨w.heap.size + 1, 1, none⟩ = some (.int .i64 rk') := fun V h => (cells10 (RB.out V h)).2.1
  have u2 : ∀ V, Below W.heap.size W V → V.cell? ⟨w.heap.size + 1, 2, none⟩ = some (.string i') := fun V h => (cells10 (RB.out V h)).2.2.1
  have u3 : ∀ V, Below W.heap.size W V → V.cell? ⟨w.heap.size + 1, 3, none⟩ = some (.string v') := fun V h => (cells10 (RB.out V h)).2.2.2.1
  have u4 : ∀ V, Below W.heap.size W V → V.cell? ⟨w.heap.size + 1, 4, none⟩ = some (.float .f64 t') := fun V h => (cells10 (RB.out V h)).2.2.2.2.1
  refine wpAnyH_take (i := 0) (v := .pointer (some ⟨w.heap.size, 1, none⟩)) rfl (by kernel_rfl) ?_ ?_ (fun _ _ _ h => h) (Or.inl ⟨by first | kernel_rfl | rfl, ?_⟩) hS0 ?_
  · kernel_rfl
  · kernel_rfl
  · intro V hV; go_simp
  refine wpAnyH_take (i := 1) (v := .agg #[.int .i64 rk, .string i, .string v, .float .f64 t]) rfl (by kernel_rfl) ?_ ?_ (fun _ _ _ h => h) (Or.inl ⟨by first | kernel_rfl | rfl, ?_⟩) hS0 ?_
  · kernel_rfl
  · kernel_rfl
  · intro V hV; go_simp
  refine wpAnyH_take (i := 2) (v := .pointer (some ⟨w.heap.size + 1, 1, none⟩)) rfl (by kernel_rfl) ?_ ?_ (fun _ _ _ h => h) (Or.inl ⟨by first | kernel_rfl | rfl, ?_⟩) hS0 ?_
  · kernel_rfl
  · kernel_rfl
  · intro V hV; go_simp
  refine wpAnyH_take (i := 3) (v := .agg #[.int .i64 rk', .string i', .string v', .float .f64 t']) rfl (by kernel_rfl) ?_ ?_ (fun _ _ _ h => h) (Or.inl ⟨by first | kernel_rfl | rfl, ?_⟩) hS0 ?_
  · kernel_rfl
  · kernel_rfl
  · intro V hV; go_simp
  obtain ⟨Wd, hWd⟩ : ∃ x, x = { W with drawn := W.drawn + 1 } := ⟨_, rfl⟩
  rw [← hWd] at hS0 ⊢
  clear hWd t1 t2 t3 t4 u1 u2 u3 u4
  refine wpAnyH_ready (rs := [4, 5]) (by kernel_rfl) (by simp) ?_
  refine AllReadyH.cons rfl (fun K hK => ?_) (AllReadyH.cons rfl (fun K hK => ?_) AllReadyH.nil)
  · go_simp
    have s1 := hS0.alloc hS0.size (.cells #[.int .i64 0, .string (ByteArray.mk #[]), .string (ByteArray.mk #[]), .float .f64 0] 25)
    refine hK.out _ _ s1 (fun _ => ?_)
    clear hK K
    refine wpAnyH_ready (rs := [5]) (by kernel_rfl) (by simp) ?_
    refine AllReadyH.cons rfl (fun K hK => ?_) AllReadyH.nil
    go_simp
    obtain ⟨q1, q2, q3, q4, q5⟩ := two_rows Wd #[.int .i64 0, .string (ByteArray.mk #[]), .string (ByteArray.mk #[]), .float .f64 0] #[.int .i64 rk, .string i, .string v, .float .f64 t] #[.int .i64 rk', .string i', .string v', .float .f64 t'] 25 (Wd.heap.size) (Wd.heap.size + 1) (by omega)
    obtain ⟨p1, p2, p3⟩ := q5 _ _ hS0 hS0.size
    refine hK.out _ _ p1 (fun _ => ?_)
    clear hK K
    refine wpAnyH_ready (rs := [6]) (by kernel_rfl) (by simp) ?_
    refine AllReadyH.cons rfl (fun K hK => ?_) AllReadyH.nil
    rw [if_pos (by rfl)]
    refine wp_store_row 25 _ _ rfl (Wd.heap.size) #[.int .i64 rk, .string i, .string v, .float .f64 t] rfl rfl _ _ q1 (by kernel_rfl) rfl (by kernel_rfl) ?_
    refine hK.out _ _ p2 (fun _ => ?_)
    clear hK K
    refine wpAnyH_ready (rs := [7]) (by kernel_rfl) (by simp) ?_
    refine AllReadyH.cons rfl (fun K hK => ?_) AllReadyH.nil
    rw [if_pos (by rfl)]
    refine wp_store_row 25 _ _ rfl (Wd.heap.size + 1) #[.int .i64 rk', .string i', .string v', .float .f64 t'] rfl rfl _ _ q2 (by kernel_rfl) rfl (by kernel_rfl) ?_
    refine hK.out _ _ p3 (fun _ => ?_)
    clear hK K
    refine wpAnyH_done (by kernel_rfl) ?_ _
    obtain ⟨X, hX⟩ : ∃ x, x = Wd.heap.size := ⟨_, rfl⟩
    obtain ⟨Y, hY⟩ : ∃ x, x = Wd.heap.size + 1 := ⟨_, rfl⟩
    obtain ⟨V, hV⟩ : ∃ x, x = (((Wd.alloc (.cells #[.int .i64 0, .string (ByteArray.mk #[]), .string (ByteArray.mk #[]), .float .f64 0] 25)).alloc (.cells #[.int .i64 0, .string (ByteArray.mk #[]), .string (ByteArray.mk #[]), .float .f64 0] 25)).setRow (Wd.heap.size) #[.int .i64 rk, .string i, .string v, .float .f64 t]).setRow (Wd.heap.size + 1) #[.int .i64 rk', .string i', .string v', .float .f64 t'] := ⟨_, rfl⟩
    rw [← hV] at q3 q4 p3
    simp only [Act.put]
    rw [← hV]
    rw [← hX] at q3
    rw [← hY] at q4
    simp only [← hY]
    simp only [← hX]
    clear hX hY hV q1 q2 q5 p1 p2 s1 hS0
    obtain ⟨a0, _, _, _, _, a5, a6, a7, a8, a9⟩ := cells10 (RA.out V p3)
    obtain ⟨b0, _, _, _, _, b5, b6, b7, b8, b9⟩ := cells10 (RB.out V p3)
    obtain ⟨x0, x1, x2, x3⟩ := cellsR q3
    obtain ⟨y0, y1, y2, y3⟩ := cellsR q4
    clear q3 q4
    have A0 := cell_regrown a0
    have B0 := cell_regrown b0
    have A5 := cell_regrown a5
    have B5 := cell_regrown b5
    have A6 := cell_regrown a6
    have B6 := cell_regrown b6
    have A7 := cell_regrown a7
    have B7 := cell_regrown b7
    have A8 := cell_regrown a8
    have B8 := cell_regrown b8
    have A9 := cell_regrown a9
    have B9 := cell_regrown b9
    have X0 := cell_regrown x0
    have Y0 := cell_regrown y0
    have X1 := cell_regrown x1
    have Y1 := cell_regrown y1
    have X2 := cell_regrown x2
    have Y2 := cell_regrown y2
    have X3 := cell_regrown x3
    have Y3 := cell_regrown y3
    clear a0 a5 a6 a7 a8 a9 b0 b5 b6 b7 b8 b9 x0 x1 x2 x3 y0 y1 y2 y3
    go_wp2_with fail
    refine Loose.wp_region_quiet_fast (by kernel_rfl) (by kernel_rfl) ?_
    (try simp only [List.append_eq, List.cons_append, List.nil_append])
    repeat (go_big_quiet_step (fail))
    go_big_quiet_step ((go_at_call 38; exact Calls.regrown_of (HK.out _ (below_step N3.out (below_step p3 (below_regrown _ _ _))))))
    repeat (go_big_quiet_step (fail))
    refine wpQuiet_nil ?_
    intro _ hw'
    obtain ⟨⟨dq, osq⟩, hw''⟩ := hw'
    subst hw''
    go_wp2_with fail
    go_ret
    exact ⟨rfl, below_step N3.out (below_step p3 (below_regrown _ dq osq))⟩
  · go_simp
    have s1 := hS0.alloc hS0.size (.cells #[.int .i64 0, .string (ByteArray.mk #[]), .string (ByteArray.mk #[]), .float .f64 0] 25)
    refine hK.out _ _ s1 (fun _ => ?_)
    clear hK K
    refine wpAnyH_ready (rs := [4]) (by kernel_rfl) (by simp) ?_
    refine AllReadyH.cons rfl (fun K hK => ?_) AllReadyH.nil
    go_simp
    obtain ⟨q1, q2, q3, q4, q5⟩ := two_rows Wd #[.int .i64 0, .string (ByteArray.mk #[]), .string (ByteArray.mk #[]), .float .f64 0] #[.int .i64 rk, .string i, .string v, .float .f64 t] #[.int .i64 rk', .string i', .string v', .float .f64 t'] 25 (Wd.heap.size + 1) (Wd.heap.size) (by omega)
    obtain ⟨p1, p2, p3⟩ := q5 _ _ hS0 hS0.size
    refine hK.out _ _ p1 (fun _ => ?_)
    clear hK K
    refine wpAnyH_ready (rs := [6]) (by kernel_rfl) (by simp) ?_
    refine AllReadyH.cons rfl (fun K hK => ?_) AllReadyH.nil
    rw [if_pos (by rfl)]
    refine wp_store_row 25 _ _ rfl (Wd.heap.size + 1) #[.int .i64 rk, .string i, .string v, .float .f64 t] rfl rfl _ _ q1 (by kernel_rfl) rfl (by kernel_rfl) ?_
    refine hK.out _ _ p2 (fun _ => ?_)
    clear hK K
    refine wpAnyH_ready (rs := [7]) (by kernel_rfl) (by simp) ?_
    refine AllReadyH.cons rfl (fun K hK => ?_) AllReadyH.nil
    rw [if_pos (by rfl)]
    refine wp_store_row 25 _ _ rfl (Wd.heap.size) #[.int .i64 rk', .string i', .string v', .float .f64 t'] rfl rfl _ _ q2 (by kernel_rfl) rfl (by kernel_rfl) ?_
    refine hK.out _ _ p3 (fun _ => ?_)
    clear hK K
    refine wpAnyH_done (by kernel_rfl) ?_ _
    obtain ⟨X, hX⟩ : ∃ x, x = Wd.heap.size + 1 := ⟨_, rfl⟩
    obtain ⟨Y, hY⟩ : ∃ x, x = Wd.heap.size := ⟨_, rfl⟩
    obtain ⟨V, hV⟩ : ∃ x, x = (((Wd.alloc (.cells #[.int .i64 0, .string (ByteArray.mk #[]), .string (ByteArray.mk #[]), .float .f64 0] 25)).alloc (.cells #[.int .i64 0, .string (ByteArray.mk #[]), .string (ByteArray.mk #[]), .float .f64 0] 25)).setRow (Wd.heap.size + 1) #[.int .i64 rk, .string i, .string v, .float .f64 t]).setRow (Wd.heap.size) #[.int .i64 rk', .string i', .string v', .float .f64 t'] := ⟨_, rfl⟩
    rw [← hV] at q3 q4 p3
    simp only [Act.put]
    rw [← hV]
    rw [← hX] at q3
    rw [← hY] at q4
    simp only [← hX]
    simp only [← hY]
    clear hX hY hV q1 q2 q5 p1 p2 s1 hS0
    obtain ⟨a0, _, _, _, _, a5, a6, a7, a8, a9⟩ := cells10 (RA.out V p3)
    obtain ⟨b0, _, _, _, _, b5, b6, b7, b8, b9⟩ := cells10 (RB.out V p3)
    obtain ⟨x0, x1, x2, x3⟩ := cellsR q3
    obtain ⟨y0, y1, y2, y3⟩ := cellsR q4
    clear q3 q4
    have A0 := cell_regrown a0
    have B0 := cell_regrown b0
    have A5 := cell_regrown a5
    have B5 := cell_regrown b5
    have A6 := cell_regrown a6
    have B6 := cell_regrown b6
    have A7 := cell_regrown a7
    have B7 := cell_regrown b7
    have A8 := cell_regrown a8
    have B8 := cell_regrown b8
    have A9 := cell_regrown a9
    have B9 := cell_regrown b9
    have X0 := cell_regrown x0
    have Y0 := cell_regrown y0
    have X1 := cell_regrown x1
    have Y1 := cell_regrown y1
    have X2 := cell_regrown x2
    have Y2 := cell_regrown y2
    have X3 := cell_regrown x3
    have Y3 := cell_regrown y3
    clear a0 a5 a6 a7 a8 a9 b0 b5 b6 b7 b8 b9 x0 x1 x2 x3 y0 y1 y2 y3
    go_wp2_with fail
    refine Loose.wp_region_quiet_fast (by kernel_rfl) (by kernel_rfl) ?_
    (try simp only [List.append_eq, List.cons_append, List.nil_append])
    repeat (go_big_quiet_step (fail))
    go_big_quiet_step ((go_at_call 38; exact Calls.regrown_of (HK.out _ (below_step N3.out (below_step p3 (below_regrown _ _ _))))))
    repeat (go_big_quiet_step (fail))
    refine wpQuiet_nil ?_
    intro _ hw'
    obtain ⟨⟨dq, osq⟩, hw''⟩ := hw'
    subst hw''
    go_wp2_with fail
    go_ret
    exact ⟨rfl, below_step N3.out (below_step p3 (below_regrown _ dq osq))⟩
set_option maxRecDepth 100000 in
set_option maxHeartbeats 2000000 in
theorem same_8 (k rk p to pl : Int) (i v : ByteArray) (t n m cap : Nat) (oa : Option Addr) (k' rk' p' to' pl' : Int) (i' v' : ByteArray) (t' n' m' cap' : Nat) (oa' : Option Addr) (w : World) (f0 : (k == k') = true) (f1 : (rk == rk') = true) (f2 : (i.toList == i'.toList) = true) (f3 : (v.toList == v'.toList) = true) (f4 : ((t : Int) == (t' : Int)) = true) (f5 : (p == p') = true) (f6 : ((n : Int) == (n' : Int)) = true) (f8 : (to == to') = false) (HK : Hid (∀ W, Below w.heap.size w W → Calls Try.prog 38 #[.slice oa m cap, .slice oa' m' cap'] W fun e w' => e = .returned (.bool true) ∧ Below W.heap.size W w')) :
    Calls Try.prog 19 #[.agg #[.int .i64 k, .int .i64 rk, .string i, .string v, .float .f64 t, .int .i64 p, .int .u64 n, .slice oa m cap, .int .i64 to, .int .i64 pl], .agg #[.int .i64 k', .int .i64 rk', .string i', .string v', .float .f64 t', .int .i64 p', .int .u64 n', .slice oa' m' cap', .int .i64 to', .int .i64 pl']] w fun e w' => e = .returned (.bool false) ∧ Below w.heap.size w w' := by
  have hz : (zeroValue 25).run Try.prog w = .ok (.agg #[.int .i64 0, .string (ByteArray.mk #[]), .string (ByteArray.mk #[]), .float .f64 0]) w := by kernel_rfl
  obtain ⟨n1, n2, n3⟩ := two_newA w (.cells #[.int .i64 k, .int .i64 rk, .string i, .string v, .float .f64 t, .int .i64 p, .int .u64 n, .slice oa m cap, .int .i64 to, .int .i64 pl] 29) (.cells #[.int .i64 k', .int .i64 rk', .string i', .string v', .float .f64 t', .int .i64 p', .int .u64 n', .slice oa' m' cap', .int .i64 to', .int .i64 pl'] 29)
  obtain ⟨W, hW⟩ : ∃ W, W = (w.alloc (.cells #[.int .i64 k, .int .i64 rk, .string i, .string v, .float .f64 t, .int .i64 p, .int .u64 n, .slice oa m cap, .int .i64 to, .int .i64 pl] 29)).alloc (.cells #[.int .i64 k', .int .i64 rk', .string i', .string v', .float .f64 t', .int .i64 p', .int .u64 n', .slice oa' m' cap', .int .i64 to', .int .i64 pl'] 29) := ⟨_, rfl⟩
  rw [← hW] at n1 n2 n3
  have HW := Lib.hid hW
  have RA : Hid (∀ V, Below W.heap.size W V → V.heap[w.heap.size]? = some (.cells #[.int .i64 k, .int .i64 rk, .string i, .string v, .float .f64 t, .int .i64 p, .int .u64 n, .slice oa m cap, .int .i64 to, .int .i64 pl] 29 (0, 0))) := Lib.hid (fun V h => (h.block _ (lt_of_rowS n1)).trans n1)
  have RB : Hid (∀ V, Below W.heap.size W V → V.heap[w.heap.size + 1]? = some (.cells #[.int .i64 k', .int .i64 rk', .string i', .string v', .float .f64 t', .int .i64 p', .int .u64 n', .slice oa' m' cap', .int .i64 to', .int .i64 pl'] 29 (0, 0))) := Lib.hid (fun V h => (h.block _ (lt_of_rowS n2)).trans n2)
  have N3 := Lib.hid n3
  clear n1 n2 n3 hW
  have fb := bitsS t
  have fb' := bitsS t'
  go_enter Try.func19, Try.ntmps19
  go_wp2_with fail
  rw [← HW.out]
  refine wp_region_held (S := fun V => Below W.heap.size W V) (by kernel_rfl) ?_
  have hS0 : Below W.heap.size W { W with drawn := W.drawn + 1 } := ⟨rfl, rfl, rfl, Nat.le_refl _, fun _ _ => rfl⟩
  have t1 : ∀ V, Below W.heap.size W V → V.cell? ⟨w.heap.size, 1, none⟩ = some (.int .i64 rk) := fun V h => (cells10 (RA.out V h)).2.1
  have t2 : ∀ V, Below W.heap.size W V → V.cell? ⟨w.heap.size, 2, none⟩ = some (.string i) := fun V h => (cells10 (RA.out V h)).2.2.1
  have t3 : ∀ V, Below W.heap.size W V → V.cell? ⟨w.heap.size, 3, none⟩ = some (.string v) := fun V h => (cells10 (RA.out V h)).2.2.2.1
  have t4 : ∀ V, Below W.heap.size W V → V.cell? ⟨w.heap.size, 4, none⟩ = some (.float .f64 t) := fun V h => (cells10 (RA.out V h)).2.2.2.2.1
  have u1 : ∀ V, Below W.heap.size W V → V.cell? ⟨w.heap.size + 1, 1, none⟩ = some (.int .i64 rk') := fun V h => (cells10 (RB.out V h)).2.1
  have u2 : ∀ V, Below W.heap.size W V → V.cell? ⟨w.heap.size + 1, 2, none⟩ = some (.string i') := fun V h => (cells10 (RB.out V h)).2.2.1
  have u3 : ∀ V, Below W.heap.size W V → V.cell? ⟨w.heap.size + 1, 3, none⟩ = some (.string v') := fun V h => (cells10 (RB.out V h)).2.2.2.1
  have u4 : ∀ V, Below W.heap.size W V → V.cell? ⟨w.heap.size + 1, 4, none⟩ = some (.float .f64 t') := fun V h => (cells10 (RB.out V h)).2.2.2.2.1
  refine wpAnyH_take (i := 0) (v := .pointer (some ⟨w.heap.size, 1, none⟩)) rfl (by kernel_rfl) ?_ ?_ (fun _ _ _ h => h) (Or.inl ⟨by first | kernel_rfl | rfl, ?_⟩) hS0 ?_
  · kernel_rfl
  · kernel_rfl
  · intro V hV; go_simp
  refine wpAnyH_take (i := 1) (v := .agg #[.int .i64 rk, .string i, .string v, .float .f64 t]) rfl (by kernel_rfl) ?_ ?_ (fun _ _ _ h => h) (Or.inl ⟨by first | kernel_rfl | rfl, ?_⟩) hS0 ?_
  · kernel_rfl
  · kernel_rfl
  · intro V hV; go_simp
  refine wpAnyH_take (i := 2) (v := .pointer (some ⟨w.heap.size + 1, 1, none⟩)) rfl (by kernel_rfl) ?_ ?_ (fun _ _ _ h => h) (Or.inl ⟨by first | kernel_rfl | rfl, ?_⟩) hS0 ?_
  · kernel_rfl
  · kernel_rfl
  · intro V hV; go_simp
  refine wpAnyH_take (i := 3) (v := .agg #[.int .i64 rk', .string i', .string v', .float .f64 t']) rfl (by kernel_rfl) ?_ ?_ (fun _ _ _ h => h) (Or.inl ⟨by first | kernel_rfl | rfl, ?_⟩) hS0 ?_
  · kernel_rfl
  · kernel_rfl
  · intro V hV; go_simp
  obtain ⟨Wd, hWd⟩ : ∃ x, x = { W with drawn := W.drawn + 1 } := ⟨_, rfl⟩
  rw [← hWd] at hS0 ⊢
  clear hWd t1 t2 t3 t4 u1 u2 u3 u4
  refine wpAnyH_ready (rs := [4, 5]) (by kernel_rfl) (by simp) ?_
  refine AllReadyH.cons rfl (fun K hK => ?_) (AllReadyH.cons rfl (fun K hK => ?_) AllReadyH.nil)
  · go_simp
    have s1 := hS0.alloc hS0.size (.cells #[.int .i64 0, .string (ByteArray.mk #[]), .string (ByteArray.mk #[]), .float .f64 0] 25)
    refine hK.out _ _ s1 (fun _ => ?_)
    clear hK K
    refine wpAnyH_ready (rs := [5]) (by kernel_rfl) (by simp) ?_
    refine AllReadyH.cons rfl (fun K hK => ?_) AllReadyH.nil
    go_simp
    obtain ⟨q1, q2, q3, q4, q5⟩ := two_rows Wd #[.int .i64 0, .string (ByteArray.mk #[]), .string (ByteArray.mk #[]), .float .f64 0] #[.int .i64 rk, .string i, .string v, .float .f64 t] #[.int .i64 rk', .string i', .string v', .float .f64 t'] 25 (Wd.heap.size) (Wd.heap.size + 1) (by omega)
    obtain ⟨p1, p2, p3⟩ := q5 _ _ hS0 hS0.size
    refine hK.out _ _ p1 (fun _ => ?_)
    clear hK K
    refine wpAnyH_ready (rs := [6]) (by kernel_rfl) (by simp) ?_
    refine AllReadyH.cons rfl (fun K hK => ?_) AllReadyH.nil
    rw [if_pos (by rfl)]
    refine wp_store_row 25 _ _ rfl (Wd.heap.size) #[.int .i64 rk, .string i, .string v, .float .f64 t] rfl rfl _ _ q1 (by kernel_rfl) rfl (by kernel_rfl) ?_
    refine hK.out _ _ p2 (fun _ => ?_)
    clear hK K
    refine wpAnyH_ready (rs := [7]) (by kernel_rfl) (by simp) ?_
    refine AllReadyH.cons rfl (fun K hK => ?_) AllReadyH.nil
    rw [if_pos (by rfl)]
    refine wp_store_row 25 _ _ rfl (Wd.heap.size + 1) #[.int .i64 rk', .string i', .string v', .float .f64 t'] rfl rfl _ _ q2 (by kernel_rfl) rfl (by kernel_rfl) ?_
    refine hK.out _ _ p3 (fun _ => ?_)
    clear hK K
    refine wpAnyH_done (by kernel_rfl) ?_ _
    obtain ⟨X, hX⟩ : ∃ x, x = Wd.heap.size := ⟨_, rfl⟩
    obtain ⟨Y, hY⟩ : ∃ x, x = Wd.heap.size + 1 := ⟨_, rfl⟩
    obtain ⟨V, hV⟩ : ∃ x, x = (((Wd.alloc (.cells #[.int .i64 0, .string (ByteArray.mk #[]), .string (ByteArray.mk #[]), .float .f64 0] 25)).alloc (.cells #[.int .i64 0, .string (ByteArray.mk #[]), .string (ByteArray.mk #[]), .float .f64 0] 25)).setRow (Wd.heap.size) #[.int .i64 rk, .string i, .string v, .float .f64 t]).setRow (Wd.heap.size + 1) #[.int .i64 rk', .string i', .string v', .float .f64 t'] := ⟨_, rfl⟩
    rw [← hV] at q3 q4 p3
    simp only [Act.put]
    rw [← hV]
    rw [← hX] at q3
    rw [← hY] at q4
    simp only [← hY]
    simp only [← hX]
    clear hX hY hV q1 q2 q5 p1 p2 s1 hS0
    obtain ⟨a0, _, _, _, _, a5, a6, a7, a8, a9⟩ := cells10 (RA.out V p3)
    obtain ⟨b0, _, _, _, _, b5, b6, b7, b8, b9⟩ := cells10 (RB.out V p3)
    obtain ⟨x0, x1, x2, x3⟩ := cellsR q3
    obtain ⟨y0, y1, y2, y3⟩ := cellsR q4
    clear q3 q4
    have A0 := cell_regrown a0
    have B0 := cell_regrown b0
    have A5 := cell_regrown a5
    have B5 := cell_regrown b5
    have A6 := cell_regrown a6
    have B6 := cell_regrown b6
    have A7 := cell_regrown a7
    have B7 := cell_regrown b7
    have A8 := cell_regrown a8
    have B8 := cell_regrown b8
    have A9 := cell_regrown a9
    have B9 := cell_regrown b9
    have X0 := cell_regrown x0
    have Y0 := cell_regrown y0
    have X1 := cell_regrown x1
    have Y1 := cell_regrown y1
    have X2 := cell_regrown x2
    have Y2 := cell_regrown y2
    have X3 := cell_regrown x3
    have Y3 := cell_regrown y3
    clear a0 a5 a6 a7 a8 a9 b0 b5 b6 b7 b8 b9 x0 x1 x2 x3 y0 y1 y2 y3
    go_wp2_with fail
    refine Loose.wp_region_quiet_fast (by kernel_rfl) (by kernel_rfl) ?_
    (try simp only [List.append_eq, List.cons_append, List.nil_append])
    repeat (go_big_quiet_step (fail))
    go_big_quiet_step ((go_at_call 38; exact Calls.regrown_of (HK.out _ (below_step N3.out (below_step p3 (below_regrown _ _ _))))))
    repeat (go_big_quiet_step (fail))
    refine wpQuiet_nil ?_
    intro _ hw'
    obtain ⟨⟨dq, osq⟩, hw''⟩ := hw'
    subst hw''
    go_wp2_with fail
    go_ret
    exact ⟨rfl, below_step N3.out (below_step p3 (below_regrown _ dq osq))⟩
  · go_simp
    have s1 := hS0.alloc hS0.size (.cells #[.int .i64 0, .string (ByteArray.mk #[]), .string (ByteArray.mk #[]), .float .f64 0] 25)
    refine hK.out _ _ s1 (fun _ => ?_)
    clear hK K
    refine wpAnyH_ready (rs := [4]) (by kernel_rfl) (by simp) ?_
    refine AllReadyH.cons rfl (fun K hK => ?_) AllReadyH.nil
    go_simp
    obtain ⟨q1, q2, q3, q4, q5⟩ := two_rows Wd #[.int .i64 0, .string (ByteArray.mk #[]), .string (ByteArray.mk #[]), .float .f64 0] #[.int .i64 rk, .string i, .string v, .float .f64 t] #[.int .i64 rk', .string i', .string v', .float .f64 t'] 25 (Wd.heap.size + 1) (Wd.heap.size) (by omega)
    obtain ⟨p1, p2, p3⟩ := q5 _ _ hS0 hS0.size
    refine hK.out _ _ p1 (fun _ => ?_)
    clear hK K
    refine wpAnyH_ready (rs := [6]) (by kernel_rfl) (by simp) ?_
    refine AllReadyH.cons rfl (fun K hK => ?_) AllReadyH.nil
    rw [if_pos (by rfl)]
    refine wp_store_row 25 _ _ rfl (Wd.heap.size + 1) #[.int .i64 rk, .string i, .string v, .float .f64 t] rfl rfl _ _ q1 (by kernel_rfl) rfl (by kernel_rfl) ?_
    refine hK.out _ _ p2 (fun _ => ?_)
    clear hK K
    refine wpAnyH_ready (rs := [7]) (by kernel_rfl) (by simp) ?_
    refine AllReadyH.cons rfl (fun K hK => ?_) AllReadyH.nil
    rw [if_pos (by rfl)]
    refine wp_store_row 25 _ _ rfl (Wd.heap.size) #[.int .i64 rk', .string i', .string v', .float .f64 t'] rfl rfl _ _ q2 (by kernel_rfl) rfl (by kernel_rfl) ?_
    refine hK.out _ _ p3 (fun _ => ?_)
    clear hK K
    refine wpAnyH_done (by kernel_rfl) ?_ _
    obtain ⟨X, hX⟩ : ∃ x, x = Wd.heap.size + 1 := ⟨_, rfl⟩
    obtain ⟨Y, hY⟩ : ∃ x, x = Wd.heap.size := ⟨_, rfl⟩
    obtain ⟨V, hV⟩ : ∃ x, x = (((Wd.alloc (.cells #[.int .i64 0, .string (ByteArray.mk #[]), .string (ByteArray.mk #[]), .float .f64 0] 25)).alloc (.cells #[.int .i64 0, .string (ByteArray.mk #[]), .string (ByteArray.mk #[]), .float .f64 0] 25)).setRow (Wd.heap.size + 1) #[.int .i64 rk, .string i, .string v, .float .f64 t]).setRow (Wd.heap.size) #[.int .i64 rk', .string i', .string v', .float .f64 t'] := ⟨_, rfl⟩
    rw [← hV] at q3 q4 p3
    simp only [Act.put]
    rw [← hV]
    rw [← hX] at q3
    rw [← hY] at q4
    simp only [← hX]
    simp only [← hY]
    clear hX hY hV q1 q2 q5 p1 p2 s1 hS0
    obtain ⟨a0, _, _, _, _, a5, a6, a7, a8, a9⟩ := cells10 (RA.out V p3)
    obtain ⟨b0, _, _, _, _, b5, b6, b7, b8, b9⟩ := cells10 (RB.out V p3)
    obtain ⟨x0, x1, x2, x3⟩ := cellsR q3
    obtain ⟨y0, y1, y2, y3⟩ := cellsR q4
    clear q3 q4
    have A0 := cell_regrown a0
    have B0 := cell_regrown b0
    have A5 := cell_regrown a5
    have B5 := cell_regrown b5
    have A6 := cell_regrown a6
    have B6 := cell_regrown b6
    have A7 := cell_regrown a7
    have B7 := cell_regrown b7
    have A8 := cell_regrown a8
    have B8 := cell_regrown b8
    have A9 := cell_regrown a9
    have B9 := cell_regrown b9
    have X0 := cell_regrown x0
    have Y0 := cell_regrown y0
    have X1 := cell_regrown x1
    have Y1 := cell_regrown y1
    have X2 := cell_regrown x2
    have Y2 := cell_regrown y2
    have X3 := cell_regrown x3
    have Y3 := cell_regrown y3
    clear a0 a5 a6 a7 a8 a9 b0 b5 b6 b7 b8 b9 x0 x1 x2 x3 y0 y1 y2 y3
    go_wp2_with fail
    refine Loose.wp_region_quiet_fast (by kernel_rfl) (by kernel_rfl) ?_
    (try simp only [List.append_eq, List.cons_append, List.nil_append])
    repeat (go_big_quiet_step (fail))
    go_big_quiet_step ((go_at_call 38; exact Calls.regrown_of (HK.out _ (below_step N3.out (below_step p3 (below_regrown _ _ _))))))
    repeat (go_big_quiet_step (fail))
    refine wpQuiet_nil ?_
    intro _ hw'
    obtain ⟨⟨dq, osq⟩, hw''⟩ := hw'
    subst hw''
    go_wp2_with fail
    go_ret
    exact ⟨rfl, below_step N3.out (below_step p3 (below_regrown _ dq osq))⟩
set_option maxRecDepth 100000 in
set_option maxHeartbeats 2000000 in
theorem same_9 (k rk p to pl : Int) (i v : ByteArray) (t n m cap : Nat) (oa : Option Addr) (k' rk' p' to' pl' : Int) (i' v' : ByteArray) (t' n' m' cap' : Nat) (oa' : Option Addr) (w : World) (f0 : (k == k') = true) (f1 : (rk == rk') = true) (f2 : (i.toList == i'.toList) = true) (f3 : (v.toList == v'.toList) = true) (f4 : ((t : Int) == (t' : Int)) = true) (f5 : (p == p') = true) (f6 : ((n : Int) == (n' : Int)) = true) (f8 : (to == to') = true) (f9 : (pl == pl') = false) (HK : Hid (∀ W, Below w.heap.size w W → Calls Try.prog 38 #[.slice oa m cap, .slice oa' m' cap'] W fun e w' => e = .returned (.bool true) ∧ Below W.heap.size W w')) :
    Calls Try.prog 19 #[.agg #[.int .i64 k, .int .i64 rk, .string i, .string v, .float .f64 t, .int .i64 p, .int .u64 n, .slice oa m cap, .int .i64 to, .int .i64 pl], .agg #[.int .i64 k', .int .i64 rk', .string i', .string v', .float .f64 t', .int .i64 p', .int .u64 n', .slice oa' m' cap', .int .i64 to', .int .i64 pl']] w fun e w' => e = .returned (.bool false) ∧ Below w.heap.size w w' := by
  have hz : (zeroValue 25).run Try.prog w = .ok (.agg #[.int .i64 0, .string (ByteArray.mk #[]), .string (ByteArray.mk #[]), .float .f64 0]) w := by kernel_rfl
  obtain ⟨n1, n2, n3⟩ := two_newA w (.cells #[.int .i64 k, .int .i64 rk, .string i, .string v, .float .f64 t, .int .i64 p, .int .u64 n, .slice oa m cap, .int .i64 to, .int .i64 pl] 29) (.cells #[.int .i64 k', .int .i64 rk', .string i', .string v', .float .f64 t', .int .i64 p', .int .u64 n', .slice oa' m' cap', .int .i64 to', .int .i64 pl'] 29)
  obtain ⟨W, hW⟩ : ∃ W, W = (w.alloc (.cells #[.int .i64 k, .int .i64 rk, .string i, .string v, .float .f64 t, .int .i64 p, .int .u64 n, .slice oa m cap, .int .i64 to, .int .i64 pl] 29)).alloc (.cells #[.int .i64 k', .int .i64 rk', .string i', .string v', .float .f64 t', .int .i64 p', .int .u64 n', .slice oa' m' cap', .int .i64 to', .int .i64 pl'] 29) := ⟨_, rfl⟩
  rw [← hW] at n1 n2 n3
  have HW := Lib.hid hW
  have RA : Hid (∀ V, Below W.heap.size W V → V.heap[w.heap.size]? = some (.cells #[.int .i64 k, .int .i64 rk, .string i, .string v, .float .f64 t, .int .i64 p, .int .u64 n, .slice oa m cap, .int .i64 to, .int .i64 pl] 29 (0, 0))) := Lib.hid (fun V h => (h.block _ (lt_of_rowS n1)).trans n1)
  have RB : Hid (∀ V, Below W.heap.size W V → V.heap[w.heap.size + 1]? = some (.cells #[.int .i64 k', .int .i64 rk', .string i', .string v', .float .f64 t', .int .i64 p', .int .u64 n', .slice oa' m' cap', .int .i64 to', .int .i64 pl'] 29 (0, 0))) := Lib.hid (fun V h => (h.block _ (lt_of_rowS n2)).trans n2)
  have N3 := Lib.hid n3
  clear n1 n2 n3 hW
  have fb := bitsS t
  have fb' := bitsS t'
  go_enter Try.func19, Try.ntmps19
  go_wp2_with fail
  rw [← HW.out]
  refine wp_region_held (S := fun V => Below W.heap.size W V) (by kernel_rfl) ?_
  have hS0 : Below W.heap.size W { W with drawn := W.drawn + 1 } := ⟨rfl, rfl, rfl, Nat.le_refl _, fun _ _ => rfl⟩
  have t1 : ∀ V, Below W.heap.size W V → V.cell? ⟨w.heap.size, 1, none⟩ = some (.int .i64 rk) := fun V h => (cells10 (RA.out V h)).2.1
  have t2 : ∀ V, Below W.heap.size W V → V.cell? ⟨w.heap.size, 2, none⟩ = some (.string i) := fun V h => (cells10 (RA.out V h)).2.2.1
  have t3 : ∀ V, Below W.heap.size W V → V.cell? ⟨w.heap.size, 3, none⟩ = some (.string v) := fun V h => (cells10 (RA.out V h)).2.2.2.1
  have t4 : ∀ V, Below W.heap.size W V → V.cell? ⟨w.heap.size, 4, none⟩ = some (.float .f64 t) := fun V h => (cells10 (RA.out V h)).2.2.2.2.1
  have u1 : ∀ V, Below W.heap.size W V → V.cell? ⟨w.heap.size + 1, 1, none⟩ = some (.int .i64 rk') := fun V h => (cells10 (RB.out V h)).2.1
  have u2 : ∀ V, Below W.heap.size W V → V.cell? ⟨w.heap.size + 1, 2, none⟩ = some (.string i') := fun V h => (cells10 (RB.out V h)).2.2.1
  have u3 : ∀ V, Below W.heap.size W V → V.cell? ⟨w.heap.size + 1, 3, none⟩ = some (.string v') := fun V h => (cells10 (RB.out V h)).2.2.2.1
  have u4 : ∀ V, Below W.heap.size W V → V.cell? ⟨w.heap.size + 1, 4, none⟩ = some (.float .f64 t') := fun V h => (cells10 (RB.out V h)).2.2.2.2.1
  refine wpAnyH_take (i := 0) (v := .pointer (some ⟨w.heap.size, 1, none⟩)) rfl (by kernel_rfl) ?_ ?_ (fun _ _ _ h => h) (Or.inl ⟨by first | kernel_rfl | rfl, ?_⟩) hS0 ?_
  · kernel_rfl
  · kernel_rfl
  · intro V hV; go_simp
  refine wpAnyH_take (i := 1) (v := .agg #[.int .i64 rk, .string i, .string v, .float .f64 t]) rfl (by kernel_rfl) ?_ ?_ (fun _ _ _ h => h) (Or.inl ⟨by first | kernel_rfl | rfl, ?_⟩) hS0 ?_
  · kernel_rfl
  · kernel_rfl
  · intro V hV; go_simp
  refine wpAnyH_take (i := 2) (v := .pointer (some ⟨w.heap.size + 1, 1, none⟩)) rfl (by kernel_rfl) ?_ ?_ (fun _ _ _ h => h) (Or.inl ⟨by first | kernel_rfl | rfl, ?_⟩) hS0 ?_
  · kernel_rfl
  · kernel_rfl
  · intro V hV; go_simp
  refine wpAnyH_take (i := 3) (v := .agg #[.int .i64 rk', .string i', .string v', .float .f64 t']) rfl (by kernel_rfl) ?_ ?_ (fun _ _ _ h => h) (Or.inl ⟨by first | kernel_rfl | rfl, ?_⟩) hS0 ?_
  · kernel_rfl
  · kernel_rfl
  · intro V hV; go_simp
  obtain ⟨Wd, hWd⟩ : ∃ x, x = { W with drawn := W.drawn + 1 } := ⟨_, rfl⟩
  rw [← hWd] at hS0 ⊢
  clear hWd t1 t2 t3 t4 u1 u2 u3 u4
  refine wpAnyH_ready (rs := [4, 5]) (by kernel_rfl) (by simp) ?_
  refine AllReadyH.cons rfl (fun K hK => ?_) (AllReadyH.cons rfl (fun K hK => ?_) AllReadyH.nil)
  · go_simp
    have s1 := hS0.alloc hS0.size (.cells #[.int .i64 0, .string (ByteArray.mk #[]), .string (ByteArray.mk #[]), .float .f64 0] 25)
    refine hK.out _ _ s1 (fun _ => ?_)
    clear hK K
    refine wpAnyH_ready (rs := [5]) (by kernel_rfl) (by simp) ?_
    refine AllReadyH.cons rfl (fun K hK => ?_) AllReadyH.nil
    go_simp
    obtain ⟨q1, q2, q3, q4, q5⟩ := two_rows Wd #[.int .i64 0, .string (ByteArray.mk #[]), .string (ByteArray.mk #[]), .float .f64 0] #[.int .i64 rk, .string i, .string v, .float .f64 t] #[.int .i64 rk', .string i', .string v', .float .f64 t'] 25 (Wd.heap.size) (Wd.heap.size + 1) (by omega)
    obtain ⟨p1, p2, p3⟩ := q5 _ _ hS0 hS0.size
    refine hK.out _ _ p1 (fun _ => ?_)
    clear hK K
    refine wpAnyH_ready (rs := [6]) (by kernel_rfl) (by simp) ?_
    refine AllReadyH.cons rfl (fun K hK => ?_) AllReadyH.nil
    rw [if_pos (by rfl)]
    refine wp_store_row 25 _ _ rfl (Wd.heap.size) #[.int .i64 rk, .string i, .string v, .float .f64 t] rfl rfl _ _ q1 (by kernel_rfl) rfl (by kernel_rfl) ?_
    refine hK.out _ _ p2 (fun _ => ?_)
    clear hK K
    refine wpAnyH_ready (rs := [7]) (by kernel_rfl) (by simp) ?_
    refine AllReadyH.cons rfl (fun K hK => ?_) AllReadyH.nil
    rw [if_pos (by rfl)]
    refine wp_store_row 25 _ _ rfl (Wd.heap.size + 1) #[.int .i64 rk', .string i', .string v', .float .f64 t'] rfl rfl _ _ q2 (by kernel_rfl) rfl (by kernel_rfl) ?_
    refine hK.out _ _ p3 (fun _ => ?_)
    clear hK K
    refine wpAnyH_done (by kernel_rfl) ?_ _
    obtain ⟨X, hX⟩ : ∃ x, x = Wd.heap.size := ⟨_, rfl⟩
    obtain ⟨Y, hY⟩ : ∃ x, x = Wd.heap.size + 1 := ⟨_, rfl⟩
    obtain ⟨V, hV⟩ : ∃ x, x = (((Wd.alloc (.cells #[.int .i64 0, .string (ByteArray.mk #[]), .string (ByteArray.mk #[]), .float .f64 0] 25)).alloc (.cells #[.int .i64 0, .string (ByteArray.mk #[]), .string (ByteArray.mk #[]), .float .f64 0] 25)).setRow (Wd.heap.size) #[.int .i64 rk, .string i, .string v, .float .f64 t]).setRow (Wd.heap.size + 1) #[.int .i64 rk', .string i', .string v', .float .f64 t'] := ⟨_, rfl⟩
    rw [← hV] at q3 q4 p3
    simp only [Act.put]
    rw [← hV]
    rw [← hX] at q3
    rw [← hY] at q4
    simp only [← hY]
    simp only [← hX]
    clear hX hY hV q1 q2 q5 p1 p2 s1 hS0
    obtain ⟨a0, _, _, _, _, a5, a6, a7, a8, a9⟩ := cells10 (RA.out V p3)
    obtain ⟨b0, _, _, _, _, b5, b6, b7, b8, b9⟩ := cells10 (RB.out V p3)
    obtain ⟨x0, x1, x2, x3⟩ := cellsR q3
    obtain ⟨y0, y1, y2, y3⟩ := cellsR q4
    clear q3 q4
    have A0 := cell_regrown a0
    have B0 := cell_regrown b0
    have A5 := cell_regrown a5
    have B5 := cell_regrown b5
    have A6 := cell_regrown a6
    have B6 := cell_regrown b6
    have A7 := cell_regrown a7
    have B7 := cell_regrown b7
    have A8 := cell_regrown a8
    have B8 := cell_regrown b8
    have A9 := cell_regrown a9
    have B9 := cell_regrown b9
    have X0 := cell_regrown x0
    have Y0 := cell_regrown y0
    have X1 := cell_regrown x1
    have Y1 := cell_regrown y1
    have X2 := cell_regrown x2
    have Y2 := cell_regrown y2
    have X3 := cell_regrown x3
    have Y3 := cell_regrown y3
    clear a0 a5 a6 a7 a8 a9 b0 b5 b6 b7 b8 b9 x0 x1 x2 x3 y0 y1 y2 y3
    go_wp2_with fail
    refine Loose.wp_region_quiet_fast (by kernel_rfl) (by kernel_rfl) ?_
    (try simp only [List.append_eq, List.cons_append, List.nil_append])
    repeat (go_big_quiet_step (fail))
    go_big_quiet_step ((go_at_call 38; exact Calls.regrown_of (HK.out _ (below_step N3.out (below_step p3 (below_regrown _ _ _))))))
    repeat (go_big_quiet_step (fail))
    refine wpQuiet_nil ?_
    intro _ hw'
    obtain ⟨⟨dq, osq⟩, hw''⟩ := hw'
    subst hw''
    go_wp2_with fail
    go_ret
    exact ⟨rfl, below_step N3.out (below_step p3 (below_regrown _ dq osq))⟩
  · go_simp
    have s1 := hS0.alloc hS0.size (.cells #[.int .i64 0, .string (ByteArray.mk #[]), .string (ByteArray.mk #[]), .float .f64 0] 25)
    refine hK.out _ _ s1 (fun _ => ?_)
    clear hK K
    refine wpAnyH_ready (rs := [4]) (by kernel_rfl) (by simp) ?_
    refine AllReadyH.cons rfl (fun K hK => ?_) AllReadyH.nil
    go_simp
    obtain ⟨q1, q2, q3, q4, q5⟩ := two_rows Wd #[.int .i64 0, .string (ByteArray.mk #[]), .string (ByteArray.mk #[]), .float .f64 0] #[.int .i64 rk, .string i, .string v, .float .f64 t] #[.int .i64 rk', .string i', .string v', .float .f64 t'] 25 (Wd.heap.size + 1) (Wd.heap.size) (by omega)
    obtain ⟨p1, p2, p3⟩ := q5 _ _ hS0 hS0.size
    refine hK.out _ _ p1 (fun _ => ?_)
    clear hK K
    refine wpAnyH_ready (rs := [6]) (by kernel_rfl) (by simp) ?_
    refine AllReadyH.cons rfl (fun K hK => ?_) AllReadyH.nil
    rw [if_pos (by rfl)]
    refine wp_store_row 25 _ _ rfl (Wd.heap.size + 1) #[.int .i64 rk, .string i, .string v, .float .f64 t] rfl rfl _ _ q1 (by kernel_rfl) rfl (by kernel_rfl) ?_
    refine hK.out _ _ p2 (fun _ => ?_)
    clear hK K
    refine wpAnyH_ready (rs := [7]) (by kernel_rfl) (by simp) ?_
    refine AllReadyH.cons rfl (fun K hK => ?_) AllReadyH.nil
    rw [if_pos (by rfl)]
    refine wp_store_row 25 _ _ rfl (Wd.heap.size) #[.int .i64 rk', .string i', .string v', .float .f64 t'] rfl rfl _ _ q2 (by kernel_rfl) rfl (by kernel_rfl) ?_
    refine hK.out _ _ p3 (fun _ => ?_)
    clear hK K
    refine wpAnyH_done (by kernel_rfl) ?_ _
    obtain ⟨X, hX⟩ : ∃ x, x = Wd.heap.size + 1 := ⟨_, rfl⟩
    obtain ⟨Y, hY⟩ : ∃ x, x = Wd.heap.size := ⟨_, rfl⟩
    obtain ⟨V, hV⟩ : ∃ x, x = (((Wd.alloc (.cells #[.int .i64 0, .string (ByteArray.mk #[]), .string (ByteArray.mk #[]), .float .f64 0] 25)).alloc (.cells #[.int .i64 0, .string (ByteArray.mk #[]), .string (ByteArray.mk #[]), .float .f64 0] 25)).setRow (Wd.heap.size + 1) #[.int .i64 rk, .string i, .string v, .float .f64 t]).setRow (Wd.heap.size) #[.int .i64 rk', .string i', .string v', .float .f64 t'] := ⟨_, rfl⟩
    rw [← hV] at q3 q4 p3
    simp only [Act.put]
    rw [← hV]
    rw [← hX] at q3
    rw [← hY] at q4
    simp only [← hX]
    simp only [← hY]
    clear hX hY hV q1 q2 q5 p1 p2 s1 hS0
    obtain ⟨a0, _, _, _, _, a5, a6, a7, a8, a9⟩ := cells10 (RA.out V p3)
    obtain ⟨b0, _, _, _, _, b5, b6, b7, b8, b9⟩ := cells10 (RB.out V p3)
    obtain ⟨x0, x1, x2, x3⟩ := cellsR q3
    obtain ⟨y0, y1, y2, y3⟩ := cellsR q4
    clear q3 q4
    have A0 := cell_regrown a0
    have B0 := cell_regrown b0
    have A5 := cell_regrown a5
    have B5 := cell_regrown b5
    have A6 := cell_regrown a6
    have B6 := cell_regrown b6
    have A7 := cell_regrown a7
    have B7 := cell_regrown b7
    have A8 := cell_regrown a8
    have B8 := cell_regrown b8
    have A9 := cell_regrown a9
    have B9 := cell_regrown b9
    have X0 := cell_regrown x0
    have Y0 := cell_regrown y0
    have X1 := cell_regrown x1
    have Y1 := cell_regrown y1
    have X2 := cell_regrown x2
    have Y2 := cell_regrown y2
    have X3 := cell_regrown x3
    have Y3 := cell_regrown y3
    clear a0 a5 a6 a7 a8 a9 b0 b5 b6 b7 b8 b9 x0 x1 x2 x3 y0 y1 y2 y3
    go_wp2_with fail
    refine Loose.wp_region_quiet_fast (by kernel_rfl) (by kernel_rfl) ?_
    (try simp only [List.append_eq, List.cons_append, List.nil_append])
    repeat (go_big_quiet_step (fail))
    go_big_quiet_step ((go_at_call 38; exact Calls.regrown_of (HK.out _ (below_step N3.out (below_step p3 (below_regrown _ _ _))))))
    repeat (go_big_quiet_step (fail))
    refine wpQuiet_nil ?_
    intro _ hw'
    obtain ⟨⟨dq, osq⟩, hw''⟩ := hw'
    subst hw''
    go_wp2_with fail
    go_ret
    exact ⟨rfl, below_step N3.out (below_step p3 (below_regrown _ dq osq))⟩
set_option maxRecDepth 100000 in
set_option maxHeartbeats 2000000 in
theorem same_10 (k rk p to pl : Int) (i v : ByteArray) (t n m cap : Nat) (oa : Option Addr) (k' rk' p' to' pl' : Int) (i' v' : ByteArray) (t' n' m' cap' : Nat) (oa' : Option Addr) (w : World) (f0 : (k == k') = true) (f1 : (rk == rk') = true) (f2 : (i.toList == i'.toList) = true) (f3 : (v.toList == v'.toList) = true) (f4 : ((t : Int) == (t' : Int)) = true) (f5 : (p == p') = true) (f6 : ((n : Int) == (n' : Int)) = true) (f8 : (to == to') = true) (f9 : (pl == pl') = true) (HK : Hid (∀ W, Below w.heap.size w W → Calls Try.prog 38 #[.slice oa m cap, .slice oa' m' cap'] W fun e w' => e = .returned (.bool true) ∧ Below W.heap.size W w')) :
    Calls Try.prog 19 #[.agg #[.int .i64 k, .int .i64 rk, .string i, .string v, .float .f64 t, .int .i64 p, .int .u64 n, .slice oa m cap, .int .i64 to, .int .i64 pl], .agg #[.int .i64 k', .int .i64 rk', .string i', .string v', .float .f64 t', .int .i64 p', .int .u64 n', .slice oa' m' cap', .int .i64 to', .int .i64 pl']] w fun e w' => e = .returned (.bool true) ∧ Below w.heap.size w w' := by
  have hz : (zeroValue 25).run Try.prog w = .ok (.agg #[.int .i64 0, .string (ByteArray.mk #[]), .string (ByteArray.mk #[]), .float .f64 0]) w := by kernel_rfl
  obtain ⟨n1, n2, n3⟩ := two_newA w (.cells #[.int .i64 k, .int .i64 rk, .string i, .string v, .float .f64 t, .int .i64 p, .int .u64 n, .slice oa m cap, .int .i64 to, .int .i64 pl] 29) (.cells #[.int .i64 k', .int .i64 rk', .string i', .string v', .float .f64 t', .int .i64 p', .int .u64 n', .slice oa' m' cap', .int .i64 to', .int .i64 pl'] 29)
  obtain ⟨W, hW⟩ : ∃ W, W = (w.alloc (.cells #[.int .i64 k, .int .i64 rk, .string i, .string v, .float .f64 t, .int .i64 p, .int .u64 n, .slice oa m cap, .int .i64 to, .int .i64 pl] 29)).alloc (.cells #[.int .i64 k', .int .i64 rk', .string i', .string v', .float .f64 t', .int .i64 p', .int .u64 n', .slice oa' m' cap', .int .i64 to', .int .i64 pl'] 29) := ⟨_, rfl⟩
  rw [← hW] at n1 n2 n3
  have HW := Lib.hid hW
  have RA : Hid (∀ V, Below W.heap.size W V → V.heap[w.heap.size]? = some (.cells #[.int .i64 k, .int .i64 rk, .string i, .string v, .float .f64 t, .int .i64 p, .int .u64 n, .slice oa m cap, .int .i64 to, .int .i64 pl] 29 (0, 0))) := Lib.hid (fun V h => (h.block _ (lt_of_rowS n1)).trans n1)
  have RB : Hid (∀ V, Below W.heap.size W V → V.heap[w.heap.size + 1]? = some (.cells #[.int .i64 k', .int .i64 rk', .string i', .string v', .float .f64 t', .int .i64 p', .int .u64 n', .slice oa' m' cap', .int .i64 to', .int .i64 pl'] 29 (0, 0))) := Lib.hid (fun V h => (h.block _ (lt_of_rowS n2)).trans n2)
  have N3 := Lib.hid n3
  clear n1 n2 n3 hW
  have fb := bitsS t
  have fb' := bitsS t'
  go_enter Try.func19, Try.ntmps19
  go_wp2_with fail
  rw [← HW.out]
  refine wp_region_held (S := fun V => Below W.heap.size W V) (by kernel_rfl) ?_
  have hS0 : Below W.heap.size W { W with drawn := W.drawn + 1 } := ⟨rfl, rfl, rfl, Nat.le_refl _, fun _ _ => rfl⟩
  have t1 : ∀ V, Below W.heap.size W V → V.cell? ⟨w.heap.size, 1, none⟩ = some (.int .i64 rk) := fun V h => (cells10 (RA.out V h)).2.1
  have t2 : ∀ V, Below W.heap.size W V → V.cell? ⟨w.heap.size, 2, none⟩ = some (.string i) := fun V h => (cells10 (RA.out V h)).2.2.1
  have t3 : ∀ V, Below W.heap.size W V → V.cell? ⟨w.heap.size, 3, none⟩ = some (.string v) := fun V h => (cells10 (RA.out V h)).2.2.2.1
  have t4 : ∀ V, Below W.heap.size W V → V.cell? ⟨w.heap.size, 4, none⟩ = some (.float .f64 t) := fun V h => (cells10 (RA.out V h)).2.2.2.2.1
  have u1 : ∀ V, Below W.heap.size W V → V.cell? ⟨w.heap.size + 1, 1, none⟩ = some (.int .i64 rk') := fun V h => (cells10 (RB.out V h)).2.1
  have u2 : ∀ V, Below W.heap.size W V → V.cell? ⟨w.heap.size + 1, 2, none⟩ = some (.string i') := fun V h => (cells10 (RB.out V h)).2.2.1
  have u3 : ∀ V, Below W.heap.size W V → V.cell? ⟨w.heap.size + 1, 3, none⟩ = some (.string v') := fun V h => (cells10 (RB.out V h)).2.2.2.1
  have u4 : ∀ V, Below W.heap.size W V → V.cell? ⟨w.heap.size + 1, 4, none⟩ = some (.float .f64 t') := fun V h => (cells10 (RB.out V h)).2.2.2.2.1
  refine wpAnyH_take (i := 0) (v := .pointer (some ⟨w.heap.size, 1, none⟩)) rfl (by kernel_rfl) ?_ ?_ (fun _ _ _ h => h) (Or.inl ⟨by first | kernel_rfl | rfl, ?_⟩) hS0 ?_
  · kernel_rfl
  · kernel_rfl
  · intro V hV; go_simp
  refine wpAnyH_take (i := 1) (v := .agg #[.int .i64 rk, .string i, .string v, .float .f64 t]) rfl (by kernel_rfl) ?_ ?_ (fun _ _ _ h => h) (Or.inl ⟨by first | kernel_rfl | rfl, ?_⟩) hS0 ?_
  · kernel_rfl
  · kernel_rfl
  · intro V hV; go_simp
  refine wpAnyH_take (i := 2) (v := .pointer (some ⟨w.heap.size + 1, 1, none⟩)) rfl (by kernel_rfl) ?_ ?_ (fun _ _ _ h => h) (Or.inl ⟨by first | kernel_rfl | rfl, ?_⟩) hS0 ?_
  · kernel_rfl
  · kernel_rfl
  · intro V hV; go_simp
  refine wpAnyH_take (i := 3) (v := .agg #[.int .i64 rk', .string i', .string v', .float .f64 t']) rfl (by kernel_rfl) ?_ ?_ (fun _ _ _ h => h) (Or.inl ⟨by first | kernel_rfl | rfl, ?_⟩) hS0 ?_
  · kernel_rfl
  · kernel_rfl
  · intro V hV; go_simp
  obtain ⟨Wd, hWd⟩ : ∃ x, x = { W with drawn := W.drawn + 1 } := ⟨_, rfl⟩
  rw [← hWd] at hS0 ⊢
  clear hWd t1 t2 t3 t4 u1 u2 u3 u4
  refine wpAnyH_ready (rs := [4, 5]) (by kernel_rfl) (by simp) ?_
  refine AllReadyH.cons rfl (fun K hK => ?_) (AllReadyH.cons rfl (fun K hK => ?_) AllReadyH.nil)
  · go_simp
    have s1 := hS0.alloc hS0.size (.cells #[.int .i64 0, .string (ByteArray.mk #[]), .string (ByteArray.mk #[]), .float .f64 0] 25)
    refine hK.out _ _ s1 (fun _ => ?_)
    clear hK K
    refine wpAnyH_ready (rs := [5]) (by kernel_rfl) (by simp) ?_
    refine AllReadyH.cons rfl (fun K hK => ?_) AllReadyH.nil
    go_simp
    obtain ⟨q1, q2, q3, q4, q5⟩ := two_rows Wd #[.int .i64 0, .string (ByteArray.mk #[]), .string (ByteArray.mk #[]), .float .f64 0] #[.int .i64 rk, .string i, .string v, .float .f64 t] #[.int .i64 rk', .string i', .string v', .float .f64 t'] 25 (Wd.heap.size) (Wd.heap.size + 1) (by omega)
    obtain ⟨p1, p2, p3⟩ := q5 _ _ hS0 hS0.size
    refine hK.out _ _ p1 (fun _ => ?_)
    clear hK K
    refine wpAnyH_ready (rs := [6]) (by kernel_rfl) (by simp) ?_
    refine AllReadyH.cons rfl (fun K hK => ?_) AllReadyH.nil
    rw [if_pos (by rfl)]
    refine wp_store_row 25 _ _ rfl (Wd.heap.size) #[.int .i64 rk, .string i, .string v, .float .f64 t] rfl rfl _ _ q1 (by kernel_rfl) rfl (by kernel_rfl) ?_
    refine hK.out _ _ p2 (fun _ => ?_)
    clear hK K
    refine wpAnyH_ready (rs := [7]) (by kernel_rfl) (by simp) ?_
    refine AllReadyH.cons rfl (fun K hK => ?_) AllReadyH.nil
    rw [if_pos (by rfl)]
    refine wp_store_row 25 _ _ rfl (Wd.heap.size + 1) #[.int .i64 rk', .string i', .string v', .float .f64 t'] rfl rfl _ _ q2 (by kernel_rfl) rfl (by kernel_rfl) ?_
    refine hK.out _ _ p3 (fun _ => ?_)
    clear hK K
    refine wpAnyH_done (by kernel_rfl) ?_ _
    obtain ⟨X, hX⟩ : ∃ x, x = Wd.heap.size := ⟨_, rfl⟩
    obtain ⟨Y, hY⟩ : ∃ x, x = Wd.heap.size + 1 := ⟨_, rfl⟩
    obtain ⟨V, hV⟩ : ∃ x, x = (((Wd.alloc (.cells #[.int .i64 0, .string (ByteArray.mk #[]), .string (ByteArray.mk #[]), .float .f64 0] 25)).alloc (.cells #[.int .i64 0, .string (ByteArray.mk #[]), .string (ByteArray.mk #[]), .float .f64 0] 25)).setRow (Wd.heap.size) #[.int .i64 rk, .string i, .string v, .float .f64 t]).setRow (Wd.heap.size + 1) #[.int .i64 rk', .string i', .string v', .float .f64 t'] := ⟨_, rfl⟩
    rw [← hV] at q3 q4 p3
    simp only [Act.put]
    rw [← hV]
    rw [← hX] at q3
    rw [← hY] at q4
    simp only [← hY]
    simp only [← hX]
    clear hX hY hV q1 q2 q5 p1 p2 s1 hS0
    obtain ⟨a0, _, _, _, _, a5, a6, a7, a8, a9⟩ := cells10 (RA.out V p3)
    obtain ⟨b0, _, _, _, _, b5, b6, b7, b8, b9⟩ := cells10 (RB.out V p3)
    obtain ⟨x0, x1, x2, x3⟩ := cellsR q3
    obtain ⟨y0, y1, y2, y3⟩ := cellsR q4
    clear q3 q4
    have A0 := cell_regrown a0
    have B0 := cell_regrown b0
    have A5 := cell_regrown a5
    have B5 := cell_regrown b5
    have A6 := cell_regrown a6
    have B6 := cell_regrown b6
    have A7 := cell_regrown a7
    have B7 := cell_regrown b7
    have A8 := cell_regrown a8
    have B8 := cell_regrown b8
    have A9 := cell_regrown a9
    have B9 := cell_regrown b9
    have X0 := cell_regrown x0
    have Y0 := cell_regrown y0
    have X1 := cell_regrown x1
    have Y1 := cell_regrown y1
    have X2 := cell_regrown x2
    have Y2 := cell_regrown y2
    have X3 := cell_regrown x3
    have Y3 := cell_regrown y3
    clear a0 a5 a6 a7 a8 a9 b0 b5 b6 b7 b8 b9 x0 x1 x2 x3 y0 y1 y2 y3
    go_wp2_with fail
    refine Loose.wp_region_quiet_fast (by kernel_rfl) (by kernel_rfl) ?_
    (try simp only [List.append_eq, List.cons_append, List.nil_append])
    repeat (go_big_quiet_step (fail))
    go_big_quiet_step ((go_at_call 38; exact Calls.regrown_of (HK.out _ (below_step N3.out (below_step p3 (below_regrown _ _ _))))))
    repeat (go_big_quiet_step (fail))
    refine wpQuiet_nil ?_
    intro _ hw'
    obtain ⟨⟨dq, osq⟩, hw''⟩ := hw'
    subst hw''
    go_wp2_with fail
    go_ret
    exact ⟨rfl, below_step N3.out (below_step p3 (below_regrown _ dq osq))⟩
  · go_simp
    have s1 := hS0.alloc hS0.size (.cells #[.int .i64 0, .string (ByteArray.mk #[]), .string (ByteArray.mk #[]), .float .f64 0] 25)
    refine hK.out _ _ s1 (fun _ => ?_)
    clear hK K
    refine wpAnyH_ready (rs := [4]) (by kernel_rfl) (by simp) ?_
    refine AllReadyH.cons rfl (fun K hK => ?_) AllReadyH.nil
    go_simp
    obtain ⟨q1, q2, q3, q4, q5⟩ := two_rows Wd #[.int .i64 0, .string (ByteArray.mk #[]), .string (ByteArray.mk #[]), .float .f64 0] #[.int .i64 rk, .string i, .string v, .float .f64 t] #[.int .i64 rk', .string i', .string v', .float .f64 t'] 25 (Wd.heap.size + 1) (Wd.heap.size) (by omega)
    obtain ⟨p1, p2, p3⟩ := q5 _ _ hS0 hS0.size
    refine hK.out _ _ p1 (fun _ => ?_)
    clear hK K
    refine wpAnyH_ready (rs := [6]) (by kernel_rfl) (by simp) ?_
    refine AllReadyH.cons rfl (fun K hK => ?_) AllReadyH.nil
    rw [if_pos (by rfl)]
    refine wp_store_row 25 _ _ rfl (Wd.heap.size + 1) #[.int .i64 rk, .string i, .string v, .float .f64 t] rfl rfl _ _ q1 (by kernel_rfl) rfl (by kernel_rfl) ?_
    refine hK.out _ _ p2 (fun _ => ?_)
    clear hK K
    refine wpAnyH_ready (rs := [7]) (by kernel_rfl) (by simp) ?_
    refine AllReadyH.cons rfl (fun K hK => ?_) AllReadyH.nil
    rw [if_pos (by rfl)]
    refine wp_store_row 25 _ _ rfl (Wd.heap.size) #[.int .i64 rk', .string i', .string v', .float .f64 t'] rfl rfl _ _ q2 (by kernel_rfl) rfl (by kernel_rfl) ?_
    refine hK.out _ _ p3 (fun _ => ?_)
    clear hK K
    refine wpAnyH_done (by kernel_rfl) ?_ _
    obtain ⟨X, hX⟩ : ∃ x, x = Wd.heap.size + 1 := ⟨_, rfl⟩
    obtain ⟨Y, hY⟩ : ∃ x, x = Wd.heap.size := ⟨_, rfl⟩
    obtain ⟨V, hV⟩ : ∃ x, x = (((Wd.alloc (.cells #[.int .i64 0, .string (ByteArray.mk #[]), .string (ByteArray.mk #[]), .float .f64 0] 25)).alloc (.cells #[.int .i64 0, .string (ByteArray.mk #[]), .string (ByteArray.mk #[]), .float .f64 0] 25)).setRow (Wd.heap.size + 1) #[.int .i64 rk, .string i, .string v, .float .f64 t]).setRow (Wd.heap.size) #[.int .i64 rk', .string i', .string v', .float .f64 t'] := ⟨_, rfl⟩
    rw [← hV] at q3 q4 p3
    simp only [Act.put]
    rw [← hV]
    rw [← hX] at q3
    rw [← hY] at q4
    simp only [← hX]
    simp only [← hY]
    clear hX hY hV q1 q2 q5 p1 p2 s1 hS0
    obtain ⟨a0, _, _, _, _, a5, a6, a7, a8, a9⟩ := cells10 (RA.out V p3)
    obtain ⟨b0, _, _, _, _, b5, b6, b7, b8, b9⟩ := cells10 (RB.out V p3)
    obtain ⟨x0, x1, x2, x3⟩ := cellsR q3
    obtain ⟨y0, y1, y2, y3⟩ := cellsR q4
    clear q3 q4
    have A0 := cell_regrown a0
    have B0 := cell_regrown b0
    have A5 := cell_regrown a5
    have B5 := cell_regrown b5
    have A6 := cell_regrown a6
    have B6 := cell_regrown b6
    have A7 := cell_regrown a7
    have B7 := cell_regrown b7
    have A8 := cell_regrown a8
    have B8 := cell_regrown b8
    have A9 := cell_regrown a9
    have B9 := cell_regrown b9
    have X0 := cell_regrown x0
    have Y0 := cell_regrown y0
    have X1 := cell_regrown x1
    have Y1 := cell_regrown y1
    have X2 := cell_regrown x2
    have Y2 := cell_regrown y2
    have X3 := cell_regrown x3
    have Y3 := cell_regrown y3
    clear a0 a5 a6 a7 a8 a9 b0 b5 b6 b7 b8 b9 x0 x1 x2 x3 y0 y1 y2 y3
    go_wp2_with fail
    refine Loose.wp_region_quiet_fast (by kernel_rfl) (by kernel_rfl) ?_
    (try simp only [List.append_eq, List.cons_append, List.nil_append])
    repeat (go_big_quiet_step (fail))
    go_big_quiet_step ((go_at_call 38; exact Calls.regrown_of (HK.out _ (below_step N3.out (below_step p3 (below_regrown _ _ _))))))
    repeat (go_big_quiet_step (fail))
    refine wpQuiet_nil ?_
    intro _ hw'
    obtain ⟨⟨dq, osq⟩, hw''⟩ := hw'
    subst hw''
    go_wp2_with fail
    go_ret
    exact ⟨rfl, below_step N3.out (below_step p3 (below_regrown _ dq osq))⟩
end Go.Proofs.Ytjkiofgllmjkcaa.G
