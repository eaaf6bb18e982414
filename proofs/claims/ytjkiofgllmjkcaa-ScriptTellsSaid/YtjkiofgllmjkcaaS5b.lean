/- The bytes of a crash: its truths as bytes in memory. -/
import Derived.Test.YtjkiofgllmjkcaaS5
import Derived.Laws.MakeOwn
import Derived.Test.YtjkiofgllmjkcaaGBytes
namespace Go.Proofs.Ytjkiofgllmjkcaa.G
open Go.RowKit Go.Proofs.Ytjkiofgllmjkcaa.WordPlain
set_option linter.unusedVariables false
set_option linter.unusedSimpArgs false

/-- the first k truths as bytes, zeros behind -/
def kl (l : List Bool) (k : Nat) : List Value := ((l.take k).map fun b => Value.int .u8 (if b then 1 else 0)) ++ List.replicate (l.length - k) (.int .u8 0)
theorem kl_length (l : List Bool) (k : Nat) (h : k ≤ l.length) : (kl l k).length = l.length := by simp [kl]; omega
theorem kl_true (l : List Bool) (k : Nat) (h : k < l.length) (hb : l[k] = true) : (kl l k).toArray.setIfInBounds k (.int .u8 1) = (kl l (k + 1)).toArray := by
  rw [List.setIfInBounds_toArray]
  congr 1
  unfold kl
  have e : l.length - k = (l.length - (k + 1)) + 1 := by omega
  rw [e, List.replicate_succ, List.take_succ_eq_append_getElem h, List.map_append, List.set_append]
  simp [hb, Nat.min_eq_left (Nat.le_of_lt h)]
theorem kl_false (l : List Bool) (k : Nat) (h : k < l.length) (hb : l[k] = false) : kl l (k + 1) = kl l k := by
  unfold kl
  have e : l.length - k = (l.length - (k + 1)) + 1 := by omega
  rw [e, List.replicate_succ, List.take_succ_eq_append_getElem h, List.map_append]
  simp [hb]
theorem kl_cell (l : List Bool) (k : Nat) (h : k < l.length) : ∃ v, (kl l k).toArray[k]? = some v := ⟨_, Array.getElem?_eq_getElem (by simp [kl_length l k (Nat.le_of_lt h), h])⟩
theorem kl_made (l : List Bool) : madeCells #[Value.int .u8 0] l.length = (kl l 0).toArray := by
  unfold madeCells kl
  apply Array.ext
  · simp
  · intro i h1 h2
    simp
    have : i % 1 = 0 := Nat.mod_one i
    simp [this]
theorem kl_all (l : List Bool) (j : Nat) (h : j < (kb l).size) : (kl l l.length).toArray[j]? = some (.int .u8 ((kb l)[j].toNat : Int)) := by
  have hj : j < l.length := by rw [kb_size] at h; exact h
  unfold kl
  rw [List.getElem?_toArray]
  simp only [List.take_length, Nat.sub_self, List.replicate_zero, List.append_nil]
  rw [List.getElem?_map, List.getElem?_eq_getElem hj]
  have e : (kb l)[j] = if l[j] then (1 : UInt8) else 0 := by
    show (kb l).data[j]'h = _
    simp [kb]
  rw [e]
  cases l[j] <;> rfl
theorem kl_back {W : World} {b : Nat} (l : List Bool) (ty : TypeId) (h : W.heap[b]? = some (.cells (kl l l.length).toArray ty (0, 0))) (c : Nat) :
    (convert 80 9 (.slice (some ⟨b, 0, none⟩) l.length c)).run Try.prog W = .ok (.string (kb l)) W := by
  have hB : BytesAt W b (kb l) := ⟨fun j hj => (cell_of_row _ _ j _ _ _ h).trans (kl_all l j hj), fun j hj => frozen_of_row _ _ j _ _ h⟩
  rw [← kb_size l]
  exact bytes_back hB _ _ 5 c Try.underlying80 Try.underlying5 Try.underlying9

theorem regrown_conv (l : List Bool) (q : Nat) (wr : World) (B : Nat) (hq : q = l.length) (h : wr.heap[B]? = some (.cells (kl l q).toArray 5 (0, 0))) (d : Nat) (os : Array Obj) :
    (convert 80 9 (.slice (some ⟨B, 0, none⟩) q q)).run Try.prog (Go.Sort.grow (Go.redrawn wr d) os) = .ok (.string (kb l)) (Go.Sort.grow (Go.redrawn wr d) os) := by
  subst hq
  exact kl_back l 5 (((below_regrown wr d os).block B (lt_of_rowS h)).trans h) _
theorem made_info : ∃ i, Try.prog.info? 5 = some i ∧ i.zero = some (.int .u8 0) ∧ i.size = 1 ∧ i.bytes = 1 := by
  have h : (Try.prog.info? 5).map (fun i => (i.zero, i.size, i.bytes)) = some (some (.int .u8 0), 1, 1) := by kernel_rfl
  cases hq : Try.prog.info? 5 with
  | none => rw [hq] at h; cases h
  | some i => rw [hq] at h; simp at h; exact ⟨i, rfl, h.1, h.2.1, h.2.2⟩
set_option maxRecDepth 100000 in
set_option maxHeartbeats 2000000 in
theorem bytes_5 (k rk p to pl : Int) (i v : ByteArray) (t n m cap : Nat) (w : World) (zk : ByteArray) (hk : IntKind.u64.wrap k = k) (HK : (Hid (∀ W, Calls Try.prog 40 #[.int .u64 k, .int .i64 1] W fun e w' => e = .returned (.string zk) ∧ Below W.heap.size W w'))) (b off : Nat) (k0 : (k == 0) = false) (k1 : (k == 1) = false) (k2 : (k == 2) = false) (k4 : (k == 4) = false) (k5 : (k == 5) = true) (zx zt zp zn : ByteArray) (hto : IntKind.u64.wrap to = to) (hpl : IntKind.u64.wrap pl = pl) (l : List Bool) (hm : Hid (m = l.length)) (hmb : m ≤ 255) (HX : (Hid (∀ W, Calls Try.prog 41 #[.string (kb l)] W fun e w' => e = .returned (.string zx) ∧ Below W.heap.size W w'))) (HT : (Hid (∀ W, Calls Try.prog 40 #[.int .u64 to, .int .i64 2] W fun e w' => e = .returned (.string zt) ∧ Below W.heap.size W w'))) (HP : (Hid (∀ W, Calls Try.prog 40 #[.int .u64 pl, .int .i64 1] W fun e w' => e = .returned (.string zp) ∧ Below W.heap.size W w'))) (HN : (Hid (∀ W, Calls Try.prog 40 #[.int .u64 (n : Int), .int .i64 8] W fun e w' => e = .returned (.string zn) ∧ Below W.heap.size W w'))) (q1 : (9223372036854775807 < zx.size + zt.size) = False) (q2 : (9223372036854775807 < zx.size + zt.size + zp.size) = False) (q3 : (9223372036854775807 < zx.size + zt.size + zp.size + zn.size) = False) (q5 : (9223372036854775807 < zk.size + (zx.size + zt.size + zp.size + zn.size)) = False) (HC : Hid (∀ i (h : i < l.length), w.cell? ⟨b, off + i, none⟩ = some (.bool l[i]))) :
    Calls Try.prog 24 #[.agg #[.int .i64 k, .int .i64 rk, .string i, .string v, .float .f64 t, .int .i64 p, .int .u64 n, .slice (some ⟨b, off, none⟩) m cap, .int .i64 to, .int .i64 pl]] w fun e w' => e = .returned (.string (zk ++ (((zx ++ zt) ++ zp) ++ zn))) ∧ Below w.heap.size w w' := by
  have n1 := heap_alloc_new w (.cells #[.int .i64 k, .int .i64 rk, .string i, .string v, .float .f64 t, .int .i64 p, .int .u64 n, .slice (some ⟨b, off, none⟩) m cap, .int .i64 to, .int .i64 pl] 29)
  have n3 := (Below.refl w.heap.size w).alloc (Nat.le_refl _) (.cells #[.int .i64 k, .int .i64 rk, .string i, .string v, .float .f64 t, .int .i64 p, .int .u64 n, .slice (some ⟨b, off, none⟩) m cap, .int .i64 to, .int .i64 pl] 29)
  obtain ⟨W, hW⟩ : ∃ W, W = w.alloc (.cells #[.int .i64 k, .int .i64 rk, .string i, .string v, .float .f64 t, .int .i64 p, .int .u64 n, .slice (some ⟨b, off, none⟩) m cap, .int .i64 to, .int .i64 pl] 29) := ⟨_, rfl⟩
  rw [← hW] at n1 n3
  have HW := Lib.hid hW
  have RA : Hid (∀ V, Below W.heap.size W V → V.heap[w.heap.size]? = some (.cells #[.int .i64 k, .int .i64 rk, .string i, .string v, .float .f64 t, .int .i64 p, .int .u64 n, .slice (some ⟨b, off, none⟩) m cap, .int .i64 to, .int .i64 pl] 29 (0, 0))) := Lib.hid (fun V h => (h.block _ (lt_of_rowS n1)).trans n1)
  have N3 := Lib.hid n3
  obtain ⟨a0, a1, a2, a3, a4, a5, a6, a7, a8, a9⟩ := cells10 n1
  clear n1 n3 hW
  go_enter Try.func24, Try.ntmps24
  go_wp2_with fail
  rw [← HW.out]
  refine (HK.out _).mono ?_; rintro e w1 ⟨rfl, h1⟩
  clear a0 a1 a2 a3 a4 a5 a6 a7 a8 a9
  obtain ⟨a0, a1, a2, a3, a4, a5, a6, a7, a8, a9⟩ := cells10 (RA.out _ h1)
  obtain ⟨B, hB⟩ : ∃ B, B = w1.heap.size := ⟨_, rfl⟩
  have mk : ∀ W : World, (Instr.makeSlice 80 (.int .i64 (m : Int)) (.int .i64 (m : Int))).run Try.prog W = .ok (.slice (some ⟨W.heap.size, 0, none⟩) m m) (W.alloc (.cells (kl l 0).toArray 5)) := by
    intro W
    have hi := made_info
    obtain ⟨i, h1, h2, h3, h4⟩ := hi
    have := run_make (P := Try.prog) W 80 5 i (.int .u8 0) Try.underlying80 h1 h2 .i64 .i64 (m : Int) (m : Int) (by omega) (Int.le_refl _) (by rw [h4]; omega) (by omega)
    rw [h3] at this
    simp only [Int.toNat_natCast, Nat.mul_one] at this
    rw [this, hm.out, ← kl_made]
    rfl
  have A7 : ∀ o : Obj, (w1.alloc o).cell? ⟨w.heap.size, 7, none⟩ = some (.slice (some ⟨b, off, none⟩) m cap) := fun o => (cells10 (RA.out _ (h1.alloc h1.size o))).2.2.2.2.2.2.2.1
  have hb0 : Below W.heap.size W (w1.alloc (.cells (kl l 0).toArray 5)) := h1.alloc h1.size _
  have hk0 : (w1.alloc (.cells (kl l 0).toArray 5)).heap[w1.heap.size]? = some (.cells (kl l 0).toArray 5 (0, 0)) := heap_alloc_new _ _
  have hB1 : W.heap.size ≤ w1.heap.size := h1.size
  go_wp2_with fail
  rw [← hB] at hk0 hB1 ⊢
  obtain ⟨W2, hW2⟩ : ∃ V, V = w1.alloc (.cells (kl l 0).toArray 5) := ⟨_, rfl⟩
  rw [← hW2] at hb0 hk0 ⊢
  have HB0 := Lib.hid hb0
  have HK0 := Lib.hid hk0
  have CC := Lib.hid (fun V (h : Below W.heap.size W V) j (hj : j < l.length) => ((below_step N3.out h).cell (p := ⟨b, off + j, none⟩) (block_lt_of_cell (HC.out j hj))).trans (HC.out j hj))
  clear mk A7 hb0 hk0 hW2 hB a0 a1 a2 a3 a4 a5 a6 a7 a8 a9 h1
  go_loopw [73] (fun i wr => ∃ k : Nat, k ≤ m ∧ i = .int .i64 k ∧ Below W.heap.size W wr ∧ wr.heap[B]? = some (.cells (kl l k).toArray 5 (0, 0))) (fun i _ => m - (intOf i).toNat)
  case atStart => exact ⟨0, by omega, rfl, HB0.out, HK0.out⟩
  case round =>
    obtain ⟨q, hq, rfl, hbl, hrow⟩ := hrel
    have HBL := Lib.hid hbl
    have HRW := Lib.hid hrow
    clear hbl hrow
    by_cases hlt : q < m
    · have hql : q < l.length := by have := hm.out; omega
      have hkn : (q : Int) < (m : Int) := by omega
      have cq := CC.out _ HBL.out q hql
      obtain ⟨v0, hv0⟩ := kl_cell l q hql
      have cb := (cell_of_row _ _ q _ _ _ HRW.out).trans hv0
      have fb := frozen_of_row _ _ q _ _ HRW.out
      obtain ⟨x, hx⟩ : ∃ x, x = l[q] := ⟨_, rfl⟩
      rw [← hx] at cq
      have HX1 := Lib.hid hx
      clear hx hv0
      cases x with
      | true =>
        go_wp2_with fail
        go_roundw
        case rel => exact ⟨q + 1, by omega, by go_num, HBL.out.setCell hB1 _, by rw [heap_setCell_same _ _ _ _ _ _ HRW.out]; exact congrArg (fun c => some (Obj.cells c _ _)) (kl_true l q hql HX1.out.symm)⟩
        case measure => simp [intOf]; omega
      | false =>
        go_wp2_with fail
        go_roundw
        case rel => exact ⟨q + 1, by omega, by go_num, HBL.out, by rw [kl_false l q hql HX1.out.symm]; exact HRW.out⟩
        case measure => simp [intOf]; omega
    · obtain rfl : q = m := by omega
      have hrow := HRW.out
      have hqe := hm.out
      obtain ⟨a0, a1, a2, a3, a4, a5, a6, a7, a8, a9⟩ := cells10 (RA.out _ HBL.out)
      have A0 := cell_regrown a0
      have A1 := cell_regrown a1
      have A2 := cell_regrown a2
      have A3 := cell_regrown a3
      have A4 := cell_regrown a4
      have A5 := cell_regrown a5
      have A6 := cell_regrown a6
      have A7 := cell_regrown a7
      have A8 := cell_regrown a8
      have A9 := cell_regrown a9
      have cv := regrown_conv l q wr B hqe hrow
      clear a0 a1 a2 a3 a4 a5 a6 a7 a8 a9 hrow hqe
      go_wp2_with fail
      refine wp_region_quiet_below (by kernel_rfl) (by kernel_rfl) ?_
      repeat (quiet_step (fail))
      quiet_step ((go_at_call 41; exact Calls.regrown_of (HX.out _)))
      repeat (quiet_step (fail))
      quiet_step ((go_at_call 40; exact Calls.regrown_of (HT.out _)))
      repeat (quiet_step (fail))
      quiet_step ((go_at_call 40; exact Calls.regrown_of (HP.out _)))
      repeat (quiet_step (fail))
      quiet_step ((go_at_call 40; exact Calls.regrown_of (HN.out _)))
      repeat (quiet_step (fail))
      refine wpQuiet_nil ?_
      intro _ hw'
      obtain ⟨⟨dq, osq⟩, hw''⟩ := hw'
      subst hw''
      go_wp2_with fail
      go_ret
      exact ⟨rfl, below_step N3.out (below_step HBL.out (below_regrown _ dq osq))⟩
theorem regrown_conv0 (wr : World) (B : Nat) (d : Nat) (os : Array Obj) :
    (convert 80 9 (.slice (some ⟨B, 0, none⟩) 0 0)).run Try.prog (Go.Sort.grow (Go.redrawn wr d) os) = .ok (.string (kb [])) (Go.Sort.grow (Go.redrawn wr d) os) := by
  have hB : BytesAt (Go.Sort.grow (Go.redrawn wr d) os) B (kb []) := ⟨fun j hj => absurd hj (by rw [kb_size]; simp), fun j hj => absurd hj (by rw [kb_size]; simp)⟩
  exact bytes_back hB _ _ 5 0 Try.underlying80 Try.underlying5 Try.underlying9
set_option maxRecDepth 100000 in
set_option maxHeartbeats 2000000 in
theorem bytes_5n (k rk p to pl : Int) (i v : ByteArray) (t n cap : Nat) (oa : Option Addr) (w : World) (zk : ByteArray) (hk : IntKind.u64.wrap k = k) (HK : (Hid (∀ W, Calls Try.prog 40 #[.int .u64 k, .int .i64 1] W fun e w' => e = .returned (.string zk) ∧ Below W.heap.size W w'))) (k0 : (k == 0) = false) (k1 : (k == 1) = false) (k2 : (k == 2) = false) (k4 : (k == 4) = false) (k5 : (k == 5) = true) (zx zt zp zn : ByteArray) (hto : IntKind.u64.wrap to = to) (hpl : IntKind.u64.wrap pl = pl) (HX : (Hid (∀ W, Calls Try.prog 41 #[.string (kb [])] W fun e w' => e = .returned (.string zx) ∧ Below W.heap.size W w'))) (HT : (Hid (∀ W, Calls Try.prog 40 #[.int .u64 to, .int .i64 2] W fun e w' => e = .returned (.string zt) ∧ Below W.heap.size W w'))) (HP : (Hid (∀ W, Calls Try.prog 40 #[.int .u64 pl, .int .i64 1] W fun e w' => e = .returned (.string zp) ∧ Below W.heap.size W w'))) (HN : (Hid (∀ W, Calls Try.prog 40 #[.int .u64 (n : Int), .int .i64 8] W fun e w' => e = .returned (.string zn) ∧ Below W.heap.size W w'))) (q1 : (9223372036854775807 < zx.size + zt.size) = False) (q2 : (9223372036854775807 < zx.size + zt.size + zp.size) = False) (q3 : (9223372036854775807 < zx.size + zt.size + zp.size + zn.size) = False) (q5 : (9223372036854775807 < zk.size + (zx.size + zt.size + zp.size + zn.size)) = False) :
    Calls Try.prog 24 #[.agg #[.int .i64 k, .int .i64 rk, .string i, .string v, .float .f64 t, .int .i64 p, .int .u64 n, .slice oa 0 cap, .int .i64 to, .int .i64 pl]] w fun e w' => e = .returned (.string (zk ++ (((zx ++ zt) ++ zp) ++ zn))) ∧ Below w.heap.size w w' := by
  have n1 := heap_alloc_new w (.cells #[.int .i64 k, .int .i64 rk, .string i, .string v, .float .f64 t, .int .i64 p, .int .u64 n, .slice oa 0 cap, .int .i64 to, .int .i64 pl] 29)
  have n3 := (Below.refl w.heap.size w).alloc (Nat.le_refl _) (.cells #[.int .i64 k, .int .i64 rk, .string i, .string v, .float .f64 t, .int .i64 p, .int .u64 n, .slice oa 0 cap, .int .i64 to, .int .i64 pl] 29)
  obtain ⟨W, hW⟩ : ∃ W, W = w.alloc (.cells #[.int .i64 k, .int .i64 rk, .string i, .string v, .float .f64 t, .int .i64 p, .int .u64 n, .slice oa 0 cap, .int .i64 to, .int .i64 pl] 29) := ⟨_, rfl⟩
  rw [← hW] at n1 n3
  have HW := Lib.hid hW
  have RA : Hid (∀ V, Below W.heap.size W V → V.heap[w.heap.size]? = some (.cells #[.int .i64 k, .int .i64 rk, .string i, .string v, .float .f64 t, .int .i64 p, .int .u64 n, .slice oa 0 cap, .int .i64 to, .int .i64 pl] 29 (0, 0))) := Lib.hid (fun V h => (h.block _ (lt_of_rowS n1)).trans n1)
  have N3 := Lib.hid n3
  obtain ⟨a0, a1, a2, a3, a4, a5, a6, a7, a8, a9⟩ := cells10 n1
  clear n1 n3 hW
  go_enter Try.func24, Try.ntmps24
  go_wp2_with fail
  rw [← HW.out]
  refine (HK.out _).mono ?_; rintro e w1 ⟨rfl, h1⟩
  clear a0 a1 a2 a3 a4 a5 a6 a7 a8 a9
  obtain ⟨a0, a1, a2, a3, a4, a5, a6, a7, a8, a9⟩ := cells10 (RA.out _ h1)
  obtain ⟨B, hB⟩ : ∃ B, B = w1.heap.size := ⟨_, rfl⟩
  have mk : ∀ W : World, (Instr.makeSlice 80 (.int .i64 0) (.int .i64 0)).run Try.prog W = .ok (.slice (some ⟨W.heap.size, 0, none⟩) 0 0) (W.alloc (.cells #[] 5)) := by
    intro W
    obtain ⟨i, h1, h2, h3, h4⟩ := made_info
    have := run_make (P := Try.prog) W 80 5 i (.int .u8 0) Try.underlying80 h1 h2 .i64 .i64 0 0 (by omega) (Int.le_refl _) (by rw [h4]; omega) (by omega)
    rw [h3] at this
    have e : madeCells (Value.int .u8 0).cells (Int.toNat 0 * 1) = #[] := by simp [madeCells]
    rw [this, e]
    rfl
  have A7 : ∀ o : Obj, (w1.alloc o).cell? ⟨w.heap.size, 7, none⟩ = some (.slice oa 0 cap) := fun o => (cells10 (RA.out _ (h1.alloc h1.size o))).2.2.2.2.2.2.2.1
  have hb0 : Below W.heap.size W (w1.alloc (.cells #[] 5)) := h1.alloc h1.size _
  go_wp2_with fail
  rw [← hB]
  obtain ⟨W2, hW2⟩ : ∃ V, V = w1.alloc (.cells #[] 5) := ⟨_, rfl⟩
  rw [← hW2] at hb0 ⊢
  have HB0 := Lib.hid hb0
  clear mk A7 hb0 hW2 hB a0 a1 a2 a3 a4 a5 a6 a7 a8 a9 h1
  go_loopw [73] (fun i wr => i = .int .i64 0 ∧ Below W.heap.size W wr) (fun i _ => 0)
  case atStart => exact ⟨rfl, HB0.out⟩
  case round =>
    obtain ⟨rfl, hbl⟩ := hrel
    obtain ⟨a0, a1, a2, a3, a4, a5, a6, a7, a8, a9⟩ := cells10 (RA.out _ hbl)
    have A0 := cell_regrown a0
    have A1 := cell_regrown a1
    have A2 := cell_regrown a2
    have A3 := cell_regrown a3
    have A4 := cell_regrown a4
    have A5 := cell_regrown a5
    have A6 := cell_regrown a6
    have A7 := cell_regrown a7
    have A8 := cell_regrown a8
    have A9 := cell_regrown a9
    have cv := regrown_conv0 wr B
    clear a0 a1 a2 a3 a4 a5 a6 a7 a8 a9
    go_wp2_with fail
    refine wp_region_quiet_below (by kernel_rfl) (by kernel_rfl) ?_
    repeat (quiet_step (fail))
    quiet_step ((go_at_call 41; exact Calls.regrown_of (HX.out _)))
    repeat (quiet_step (fail))
    quiet_step ((go_at_call 40; exact Calls.regrown_of (HT.out _)))
    repeat (quiet_step (fail))
    quiet_step ((go_at_call 40; exact Calls.regrown_of (HP.out _)))
    repeat (quiet_step (fail))
    quiet_step ((go_at_call 40; exact Calls.regrown_of (HN.out _)))
    repeat (quiet_step (fail))
    refine wpQuiet_nil ?_
    intro _ hw'
    obtain ⟨⟨dq, osq⟩, hw''⟩ := hw'
    subst hw''
    go_wp2_with fail
    go_ret
    exact ⟨rfl, below_step N3.out (below_step hbl (below_regrown _ dq osq))⟩

theorem wrapP (x : Int) (h0 : 0 ≤ x) (h1 : x < 18446744073709551616) : IntKind.u64.wrap x = x := by show x % 18446744073709551616 = _; omega
theorem Put_int (x : Int) (k : Nat) (h0 : 0 ≤ x) (h1 : x < 18446744073709551616) (hk : k ≤ 8) (W : World) : Calls Try.prog 40 #[.int .u64 x, .int .i64 k] W fun e w' => e = .returned (.string (wput x.toNat k)) ∧ Below W.heap.size W w' := by
  obtain ⟨n, rfl⟩ : ∃ n : Nat, x = (n : Int) := ⟨x.toNat, by omega⟩
  exact Put_val n k W _ (by omega) (Lib.hid (by rw [zc_nat k hk, Int.toNat_natCast]))
theorem bytes_val (a : Ac) (va : Value) (w : World) (hr : a.Right) (ha : a.Kind) (hs : Sb w va a.keep) :
    Calls Try.prog 24 #[.agg (a.row va)] w fun e w' => e = .returned (.string a.bytes) ∧ Below w.heap.size w w' := by
  have hf := hr.2
  have ht := ha.ttl
  have hn := ha.n
  clear hr ha
  obtain ⟨k, rk, i, v, t, p, n, l, to, pl⟩ := a
  simp only at ht hn hs
  unfold Ac.row Ac.bytes
  unfold Ac.fits at hf
  simp only at hf ⊢
  rcases beqI k 0 with ⟨k0, e0⟩ | ⟨k0, e0⟩
  · simp only [if_pos e0] at hf
    rw [if_pos e0]
    obtain ⟨oa, cap, rfl⟩ := hs.form
    have s1 := txt_size i
    have s2 := txt_size v
    have s3 := wput_size rk.toNat 1
    have s4 := wput_size t 8
    have s5 := wput_size p.toNat 1
    have s6 := wput_size k.toNat 1
    exact bytes_0 k rk p to pl i v t n l.length cap oa w _ (wrapP k (by omega) (by omega)) (Lib.hid (Put_int k 1 (by omega) (by omega) (by omega))) k0 _ _ _ _ _ (wrapP rk (by omega) (by omega)) (wrapP p (by omega) (by omega))
      (Lib.hid (Put_int rk 1 (by omega) (by omega) (by omega))) (Lib.hid (fun W => text_val i W _ (by omega) (Lib.hid rfl))) (Lib.hid (fun W => text_val v W _ (by omega) (Lib.hid rfl))) (Lib.hid (fun W => Put_int (t : Int) 8 (by omega) (by omega) (by omega) W)) (Lib.hid (Put_int p 1 (by omega) (by omega) (by omega)))
      (eq_false (by rw [s1, s3]; omega)) (eq_false (by rw [s1, s2, s3]; omega)) (eq_false (by rw [s1, s2, s3]; (try simp only [Int.toNat_natCast]); rw [s4]; omega)) (eq_false (by rw [s1, s2, s3]; (try simp only [Int.toNat_natCast]); rw [s4, s5]; omega)) (eq_false (by rw [s1, s2, s3, s6]; (try simp only [Int.toNat_natCast]); rw [s4, s5]; omega))
  simp only [if_neg e0] at hf
  rw [if_neg e0]
  have kr : 0 ≤ k ∧ k ≤ 5 := by
    by_cases e2 : k = 2
    · omega
    simp only [if_neg e2] at hf
    by_cases e4 : k = 4
    · omega
    simp only [if_neg e4] at hf
    by_cases e5 : k = 5
    · omega
    simp only [if_neg e5] at hf
    omega
  have hk := wrapP k kr.1 (by omega)
  have HK := Lib.hid (Put_int k 1 kr.1 (by omega) (by omega))
  have s6 := wput_size k.toNat 1
  rcases beqI k 1 with ⟨k1, e1⟩ | ⟨k1, e1⟩
  · rw [if_pos e1]
    obtain ⟨oa, cap, rfl⟩ := hs.form
    exact bytes_1 k rk p to pl i v t n l.length cap oa w _ hk HK k0 k1 _ (Lib.hid (fun W => Put_int (n : Int) 8 (by omega) (by omega) (by omega) W)) (eq_false (by (try simp only [Int.toNat_natCast]); rw [s6, wput_size]; omega))
  rw [if_neg e1]
  rcases beqI k 2 with ⟨k2, e2⟩ | ⟨k2, e2⟩
  · rw [if_pos e2]
    obtain ⟨oa, cap, rfl⟩ := hs.form
    exact bytes_2 k rk p to pl i v t n l.length cap oa w _ hk HK k0 k1 k2 _ (Lib.hid (fun W => Put_int (n : Int) 1 (by omega) (by omega) (by omega) W)) (eq_false (by (try simp only [Int.toNat_natCast]); rw [s6, wput_size]; omega))
  rw [if_neg e2]
  simp only [if_neg e2] at hf
  rcases beqI k 4 with ⟨k4, e4⟩ | ⟨k4, e4⟩
  · rw [if_pos e4]
    obtain ⟨oa, cap, rfl⟩ := hs.form
    exact bytes_4 k rk p to pl i v t n l.length cap oa w _ hk HK k0 k1 k2 k4 _ (Lib.hid (fun W => Put_int (n : Int) 2 (by omega) (by omega) (by omega) W)) (eq_false (by (try simp only [Int.toNat_natCast]); rw [s6, wput_size]; omega))
  rw [if_neg e4]
  simp only [if_neg e4] at hf
  rcases beqI k 5 with ⟨k5, e5⟩ | ⟨k5, e5⟩
  · rw [if_pos e5]
    simp only [if_pos e5] at hf
    have s1 := txt_size (kb l)
    have s0 := kb_size l
    have s2 := wput_size to.toNat 2
    have s3 := wput_size pl.toNat 1
    have s4 := wput_size n 8
    have f1 : (9223372036854775807 < (txt (kb l)).size + (wput to.toNat 2).size) = False := eq_false (by rw [s1, s2, s0]; omega)
    have f2 : (9223372036854775807 < (txt (kb l)).size + (wput to.toNat 2).size + (wput pl.toNat 1).size) = False := eq_false (by rw [s1, s2, s0, s3]; omega)
    have f3 : (9223372036854775807 < (txt (kb l)).size + (wput to.toNat 2).size + (wput pl.toNat 1).size + (wput n 8).size) = False := eq_false (by rw [s1, s2, s0, s3, s4]; omega)
    have f4 : (9223372036854775807 < (wput k.toNat 1).size + ((txt (kb l)).size + (wput to.toNat 2).size + (wput pl.toNat 1).size + (wput n 8).size)) = False := eq_false (by rw [s1, s2, s0, s3, s4, s6]; omega)
    have HT := Lib.hid (Put_int to 2 (by omega) (by omega) (by omega))
    have HP := Lib.hid (Put_int pl 1 (by omega) (by omega) (by omega))
    have HN := Lib.hid (fun W => Put_int (n : Int) 8 (by omega) (by omega) (by omega) W)
    have HX := Lib.hid (fun W => text_val (kb l) W _ (by rw [s0]; omega) (Lib.hid rfl))
    simp only [Int.toNat_natCast] at HN
    rcases hs with ⟨rfl, oa, cap, rfl, _⟩ | ⟨hne, b, off, cap, rfl, _, hc⟩
    · exact bytes_5n k rk p to pl i v t n cap oa w _ hk HK k0 k1 k2 k4 k5 _ _ _ _ (wrapP to (by omega) (by omega)) (wrapP pl (by omega) (by omega)) HX HT HP HN f1 f2 f3 f4
    · exact bytes_5 k rk p to pl i v t n l.length cap w _ hk HK b off k0 k1 k2 k4 k5 _ _ _ _ (wrapP to (by omega) (by omega)) (wrapP pl (by omega) (by omega)) l (Lib.hid rfl) (by omega) HX HT HP HN f1 f2 f3 f4 (Lib.hid hc)
  rw [if_neg e5]
  obtain ⟨oa, cap, rfl⟩ := hs.form
  exact bytes_x k rk p to pl i v t n l.length cap oa w _ hk HK k0 k1 k2 k4 k5
end Go.Proofs.Ytjkiofgllmjkcaa.G
