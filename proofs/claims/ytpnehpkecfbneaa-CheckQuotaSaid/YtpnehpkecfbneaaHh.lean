/- Package check: how many sectors, the quota, the bound; the fixed calls. -/
import Derived.Test.YtpnehpkecfbneaaHg
namespace Go.Proofs.Ytpnehpkecfbneaa.G
open Go.RowKit
set_option linter.unusedVariables false
set_option linter.unusedSimpArgs false

theorem cells4 {W : World} {b : Nat} {a0 a1 a2 a3 : Value} {ty : TypeId} (h : W.heap[b]? = some (.cells #[a0, a1, a2, a3] ty (0, 0))) :
    W.cell? ⟨b, 0, none⟩ = some a0 ∧ W.cell? ⟨b, 1, none⟩ = some a1 ∧ W.cell? ⟨b, 2, none⟩ = some a2 ∧ W.cell? ⟨b, 3, none⟩ = some a3 :=
  ⟨(cell_of_row _ _ 0 _ _ _ h).trans rfl, (cell_of_row _ _ 1 _ _ _ h).trans rfl, (cell_of_row _ _ 2 _ _ _ h).trans rfl, (cell_of_row _ _ 3 _ _ _ h).trans rfl⟩
theorem three_new (w : World) (o1 o2 o3 : Obj) : ∀ W, W = ((w.alloc o1).alloc o2).alloc o3 → W.heap[w.heap.size]? = some o1 ∧ W.heap[w.heap.size + 1]? = some o2 ∧ W.heap[w.heap.size + 2]? = some o3 ∧ Below w.heap.size w W := by
  intro W hW
  have s1 : (w.alloc o1).heap.size = w.heap.size + 1 := by show (w.heap.push o1).size = _; rw [Array.size_push]
  have s2 : ((w.alloc o1).alloc o2).heap.size = w.heap.size + 2 := by show ((w.alloc o1).heap.push o2).size = _; rw [Array.size_push, s1]
  have n1 := heap_alloc_new w o1
  have n2 := heap_alloc_new (w.alloc o1) o2
  have n3 := heap_alloc_new ((w.alloc o1).alloc o2) o3
  rw [s1] at n2
  rw [s2, ← hW] at n3
  have b1 : Below w.heap.size w (w.alloc o1) := (Below.refl _ _).alloc (Nat.le_refl _) _
  have b2 : Below w.heap.size w ((w.alloc o1).alloc o2) := b1.alloc b1.size _
  refine ⟨?_, ?_, n3, by rw [hW]; exact b2.alloc b2.size _⟩
  · rw [hW, heap_alloc_old _ _ (by rw [s2]; omega), heap_alloc_old _ _ (by rw [s1]; omega)]; exact n1
  · rw [hW, heap_alloc_old _ _ (by rw [s2]; omega)]; exact n2

set_option maxRecDepth 100000 in
theorem Sectors_ok (s n r : Int) (x : Nat) (w : World) (hc : ∀ W, Calls Try.prog 12 #[.agg #[.int .i64 s, .int .i64 n, .float .f64 x, .int .i64 r]] W fun e w' => e = .returned (.int .i64 0) ∧ Below W.heap.size W w') (hok : okConf s n r) :
    Calls Try.prog 14 #[.agg #[.int .i64 s, .int .i64 n, .float .f64 x, .int .i64 r]] w fun e w' => e = .returned (.int .i64 (2 + s * (n + 1))) ∧ Below w.heap.size w w' := by
  have hn := heap_alloc_new w (.cells #[.int .i64 s, .int .i64 n, .float .f64 x, .int .i64 r] 24)
  have hb0 := (Below.refl w.heap.size w).alloc (Nat.le_refl _) (.cells #[.int .i64 s, .int .i64 n, .float .f64 x, .int .i64 r] 24)
  obtain ⟨⟨a1, a2⟩, ⟨a3, a4⟩, a5, a6⟩ := hok
  have q1 : wrap64 (n + 1) = n + 1 := IntWalk.wrap64_in _ (by omega)
  have hml : 0 ≤ s * (n + 1) := Int.mul_nonneg (by omega) (by omega)
  have hmh : s * (n + 1) ≤ 16 * 31 := Int.mul_le_mul (by omega) (by omega) (by omega) (by omega)
  have q2 : wrap64 (s * (n + 1)) = s * (n + 1) := IntWalk.wrap64_in _ (by omega)
  have q3 : wrap64 (2 + s * (n + 1)) = 2 + s * (n + 1) := IntWalk.wrap64_in _ (by omega)
  have HN := Lib.hid hn
  have HB0 := Lib.hid hb0
  have HC := Lib.hid hc
  clear hn hb0 hc
  go_enter Try.func14, Try.ntmps14
  go_wp2_with fail
  refine (HC.out _).mono ?_; rintro e w1 ⟨rfl, hb1⟩
  obtain ⟨c0, c1, c2, c3⟩ := cells4 ((hb1.block _ (lt_of_row' HN.out)).trans HN.out)
  go_wp2_with fail
  go_ret
  exact ⟨rfl, below_step HB0.out hb1⟩

set_option maxRecDepth 100000 in
theorem Sectors_no (s n r : Int) (x : Nat) (w : World) (hc : ∀ W, Calls Try.prog 12 #[.agg #[.int .i64 s, .int .i64 n, .float .f64 x, .int .i64 r]] W fun e w' => e = .returned (.int .i64 1) ∧ Below W.heap.size W w') :
    Calls Try.prog 14 #[.agg #[.int .i64 s, .int .i64 n, .float .f64 x, .int .i64 r]] w fun e w' => e = .returned (.int .i64 0) ∧ Below w.heap.size w w' := by
  have hn := heap_alloc_new w (.cells #[.int .i64 s, .int .i64 n, .float .f64 x, .int .i64 r] 24)
  have hb0 := (Below.refl w.heap.size w).alloc (Nat.le_refl _) (.cells #[.int .i64 s, .int .i64 n, .float .f64 x, .int .i64 r] 24)
  have HN := Lib.hid hn
  have HB0 := Lib.hid hb0
  have HC := Lib.hid hc
  clear hn hb0 hc
  go_enter Try.func14, Try.ntmps14
  go_wp2_with fail
  refine (HC.out _).mono ?_; rintro e w1 ⟨rfl, hb1⟩
  go_wp2_with fail
  go_ret
  exact ⟨rfl, below_step HB0.out hb1⟩

set_option maxRecDepth 100000 in
theorem Bound_ok (s n r : Int) (x : Nat) (w : World) (hc : ∀ W, Calls Try.prog 12 #[.agg #[.int .i64 s, .int .i64 n, .float .f64 x, .int .i64 r]] W fun e w' => e = .returned (.int .i64 0) ∧ Below W.heap.size W w') (hok : okConf s n r) :
    Calls Try.prog 18 #[.agg #[.int .i64 s, .int .i64 n, .float .f64 x, .int .i64 r]] w fun e w' => e = .returned (.int .i64 (3 * (1 + (s - 1) * (n + 2)))) ∧ Below w.heap.size w w' := by
  have hn := heap_alloc_new w (.cells #[.int .i64 s, .int .i64 n, .float .f64 x, .int .i64 r] 24)
  have hb0 := (Below.refl w.heap.size w).alloc (Nat.le_refl _) (.cells #[.int .i64 s, .int .i64 n, .float .f64 x, .int .i64 r] 24)
  obtain ⟨⟨a1, a2⟩, ⟨a3, a4⟩, a5, a6⟩ := hok
  have q0 : wrap64 (s - 1) = s - 1 := IntWalk.wrap64_in _ (by omega)
  have q1 : wrap64 (n + 2) = n + 2 := IntWalk.wrap64_in _ (by omega)
  have hml : 0 ≤ (s - 1) * (n + 2) := Int.mul_nonneg (by omega) (by omega)
  have hmh : (s - 1) * (n + 2) ≤ 15 * 32 := Int.mul_le_mul (by omega) (by omega) (by omega) (by omega)
  have q2 : wrap64 ((s - 1) * (n + 2)) = (s - 1) * (n + 2) := IntWalk.wrap64_in _ (by omega)
  have q3 : wrap64 (1 + (s - 1) * (n + 2)) = 1 + (s - 1) * (n + 2) := IntWalk.wrap64_in _ (by omega)
  have q4 : wrap64 (3 * (1 + (s - 1) * (n + 2))) = 3 * (1 + (s - 1) * (n + 2)) := IntWalk.wrap64_in _ (by omega)
  have HN := Lib.hid hn
  have HB0 := Lib.hid hb0
  have HC := Lib.hid hc
  clear hn hb0 hc
  go_enter Try.func18, Try.ntmps18
  go_wp2_with fail
  refine (HC.out _).mono ?_; rintro e w1 ⟨rfl, hb1⟩
  obtain ⟨c0, c1, c2, c3⟩ := cells4 ((hb1.block _ (lt_of_row' HN.out)).trans HN.out)
  go_wp2_with fail
  go_ret
  exact ⟨rfl, below_step HB0.out hb1⟩

set_option maxRecDepth 100000 in
theorem Bound_no (s n r : Int) (x : Nat) (w : World) (hc : ∀ W, Calls Try.prog 12 #[.agg #[.int .i64 s, .int .i64 n, .float .f64 x, .int .i64 r]] W fun e w' => e = .returned (.int .i64 1) ∧ Below W.heap.size W w') :
    Calls Try.prog 18 #[.agg #[.int .i64 s, .int .i64 n, .float .f64 x, .int .i64 r]] w fun e w' => e = .returned (.int .i64 0) ∧ Below w.heap.size w w' := by
  have hn := heap_alloc_new w (.cells #[.int .i64 s, .int .i64 n, .float .f64 x, .int .i64 r] 24)
  have hb0 := (Below.refl w.heap.size w).alloc (Nat.le_refl _) (.cells #[.int .i64 s, .int .i64 n, .float .f64 x, .int .i64 r] 24)
  have HN := Lib.hid hn
  have HB0 := Lib.hid hb0
  have HC := Lib.hid hc
  clear hn hb0 hc
  go_enter Try.func18, Try.ntmps18
  go_wp2_with fail
  refine (HC.out _).mono ?_; rintro e w1 ⟨rfl, hb1⟩
  go_wp2_with fail
  go_ret
  exact ⟨rfl, below_step HB0.out hb1⟩

set_option maxRecDepth 100000 in
theorem Quota_ok (s n r : Int) (x : Nat) (w : World) (hc : ∀ W, Calls Try.prog 12 #[.agg #[.int .i64 s, .int .i64 n, .float .f64 x, .int .i64 r]] W fun e w' => e = .returned (.int .i64 0) ∧ Below W.heap.size W w') (hok : okConf s n r) (k m : Int) (hm : Hid (m = (s - 2) * n)) (hQ : Hid (∀ W, Calls Try.prog 26 #[.float .f64 x, .int .i64 m] W fun e w' => e = .returned (.tuple #[.int .i64 k, .int .i64 0]) ∧ W = w')) :
    Calls Try.prog 16 #[.agg #[.int .i64 s, .int .i64 n, .float .f64 x, .int .i64 r]] w fun e w' => e = .returned (.int .i64 k) ∧ Below w.heap.size w w' := by
  have hn := heap_alloc_new w (.cells #[.int .i64 s, .int .i64 n, .float .f64 x, .int .i64 r] 24)
  have hb0 := (Below.refl w.heap.size w).alloc (Nat.le_refl _) (.cells #[.int .i64 s, .int .i64 n, .float .f64 x, .int .i64 r] 24)
  obtain ⟨⟨a1, a2⟩, ⟨a3, a4⟩, a5, a6⟩ := hok
  have q0 : wrap64 (s - 2) = s - 2 := IntWalk.wrap64_in _ (by omega)
  have hml : 0 ≤ (s - 2) * n := Int.mul_nonneg (by omega) (by omega)
  have hmh : (s - 2) * n ≤ 14 * 30 := Int.mul_le_mul (by omega) (by omega) (by omega) (by omega)
  have q1 : wrap64 ((s - 2) * n) = m := by rw [hm.out]; exact IntWalk.wrap64_in _ (by omega)
  have HN := Lib.hid hn
  have HB0 := Lib.hid hb0
  have HC := Lib.hid hc
  clear hn hb0 hc
  go_enter Try.func16, Try.ntmps16
  go_wp2_with fail
  refine (HC.out _).mono ?_; rintro e w1 ⟨rfl, hb1⟩
  obtain ⟨c0, c1, c2, c3⟩ := cells4 ((hb1.block _ (lt_of_row' HN.out)).trans HN.out)
  go_wp2_with fail
  rw [← hm.out]
  refine (hQ.out _).mono ?_; rintro e w2 ⟨rfl, rfl⟩
  go_wp2_with fail
  go_ret
  exact ⟨rfl, below_step HB0.out hb1⟩

set_option maxRecDepth 100000 in
theorem Quota_no (s n r : Int) (x : Nat) (w : World) (hc : ∀ W, Calls Try.prog 12 #[.agg #[.int .i64 s, .int .i64 n, .float .f64 x, .int .i64 r]] W fun e w' => e = .returned (.int .i64 1) ∧ Below W.heap.size W w') :
    Calls Try.prog 16 #[.agg #[.int .i64 s, .int .i64 n, .float .f64 x, .int .i64 r]] w fun e w' => e = .returned (.int .i64 0) ∧ Below w.heap.size w w' := by
  have hn := heap_alloc_new w (.cells #[.int .i64 s, .int .i64 n, .float .f64 x, .int .i64 r] 24)
  have hb0 := (Below.refl w.heap.size w).alloc (Nat.le_refl _) (.cells #[.int .i64 s, .int .i64 n, .float .f64 x, .int .i64 r] 24)
  have HN := Lib.hid hn
  have HB0 := Lib.hid hb0
  have HC := Lib.hid hc
  clear hn hb0 hc
  go_enter Try.func16, Try.ntmps16
  go_wp2_with fail
  refine (HC.out _).mono ?_; rintro e w1 ⟨rfl, hb1⟩
  go_wp2_with fail
  go_ret
  exact ⟨rfl, below_step HB0.out hb1⟩

set_option maxRecDepth 100000 in
set_option maxHeartbeats 4000000 in
theorem fixed_val (w : World) : Calls Try.prog 20 #[] w fun e w' => e = .returned (.bool true) ∧ Below w.heap.size w w' := by
  have x1 : ∀ W : World, (callFunc 29 #[.int .u64 9221120237041090561]).run Try.prog W = .ok (.value (.float .f64 9221120237041090561)) W := fun _ => by kernel_rfl
  have x2 : ∀ W : World, (callFunc 29 #[.int .u64 9223372036854775808]).run Try.prog W = .ok (.value (.float .f64 9223372036854775808)) W := fun _ => by kernel_rfl
  have I0 := Lib.hid (fun W => ID_val ⟨#[97, 45, 57]⟩ W true (by decide) (Lib.hid (by decide)))
  have I1 := Lib.hid (fun W => ID_val ⟨#[]⟩ W false (by decide) (Lib.hid (by decide)))
  have I2 := Lib.hid (fun W => ID_val ⟨#[65]⟩ W false (by decide) (Lib.hid (by decide)))
  have I3 := Lib.hid (fun W => ID_val ⟨#[48, 49, 50, 51, 52, 53, 54, 55, 56, 57, 48, 49, 50, 51, 52, 53, 54]⟩ W false (by decide) (Lib.hid (by decide)))
  have I4 := Lib.hid (fun W => ID_val ⟨#[48, 49, 50, 51, 52, 53, 54, 55, 56, 57, 48, 49, 50, 51, 52, 53]⟩ W true (by decide) (Lib.hid (by decide)))
  have V0 := Lib.hid (fun W => Value_val ⟨#[]⟩ W true (Lib.hid (by decide)))
  have k1 := fun W => Conf_val 4 10 0 0 0 0 4602678819172646912 W (fun _ W => Share_half1 W) (Lib.hid (by decide))
  have k2 := fun W => Conf_val 4 10 0 1 0 1 9221120237041090561 W (fun _ W => Share_nan1 W) (Lib.hid (by decide))
  have k3 := fun W => Conf_val 4 10 0 0 0 0 9223372036854775808 W (fun _ W => Share_minus1 W) (Lib.hid (by decide))
  have K4 := Lib.hid (fun W => Conf_val 3 10 0 0 0 1 4607182418800017408 W (fun h => absurd h (by decide)) (Lib.hid (by decide)))
  have K5 := Lib.hid (fun W => Conf_val 4 31 0 0 0 1 4607182418800017408 W (fun h => absurd h (by decide)) (Lib.hid (by decide)))
  have K6 := Lib.hid (fun W => Conf_val 4 1 9 0 0 1 4607182418800017408 W (fun h => absurd h (by decide)) (Lib.hid (by decide)))
  have S1 := Lib.hid (fun W => Sectors_ok 4 10 0 4602678819172646912 W k1 (by decide))
  have B1 := Lib.hid (fun W => Bound_ok 4 10 0 4602678819172646912 W k1 (by decide))
  have Q1 := Lib.hid (fun W => Quota_ok 4 10 0 4602678819172646912 W k1 (by decide) 10 20 (Lib.hid (by decide)) (Lib.hid (fun W => Share_half20 W)))
  have Q2 := Lib.hid (fun W => Quota_no 4 10 0 9221120237041090561 W k2)
  have Q3 := Lib.hid (fun W => Quota_ok 4 10 0 9223372036854775808 W k3 (by decide) 0 20 (Lib.hid (by decide)) (Lib.hid (fun W => Share_minus20 W)))
  have K1 := Lib.hid k1
  have K2 := Lib.hid k2
  have K3 := Lib.hid k3
  clear k1 k2 k3
  obtain ⟨W0, hW0⟩ : ∃ x, x = ((w.alloc (.cells #[.int .i64 4, .int .i64 10, .float .f64 4602678819172646912, .int .i64 0] 24)).alloc (.cells #[.int .i64 4, .int .i64 10, .float .f64 9221120237041090561, .int .i64 0] 24)).alloc (.cells #[.int .i64 4, .int .i64 10, .float .f64 9223372036854775808, .int .i64 0] 24) := ⟨_, rfl⟩
  obtain ⟨p1, p2, p3, pb⟩ := three_new w _ _ _ W0 hW0
  have R1 : Hid (∀ V, Below W0.heap.size W0 V → V.heap[w.heap.size]? = some (.cells #[.int .i64 4, .int .i64 10, .float .f64 4602678819172646912, .int .i64 0] 24 (0, 0))) := Lib.hid (fun V h => (h.block _ (lt_of_row' p1)).trans p1)
  have R2 : Hid (∀ V, Below W0.heap.size W0 V → V.heap[w.heap.size + 1]? = some (.cells #[.int .i64 4, .int .i64 10, .float .f64 9221120237041090561, .int .i64 0] 24 (0, 0))) := Lib.hid (fun V h => (h.block _ (lt_of_row' p2)).trans p2)
  have R3 : Hid (∀ V, Below W0.heap.size W0 V → V.heap[w.heap.size + 2]? = some (.cells #[.int .i64 4, .int .i64 10, .float .f64 9223372036854775808, .int .i64 0] 24 (0, 0))) := Lib.hid (fun V h => (h.block _ (lt_of_row' p3)).trans p3)
  have PB := Lib.hid pb
  have HW0 := Lib.hid hW0
  have s1 : (w.alloc (.cells #[.int .i64 4, .int .i64 10, .float .f64 4602678819172646912, .int .i64 0] 24)).heap.size = w.heap.size + 1 := by show (w.heap.push _).size = _; rw [Array.size_push]
  have s2 : ((w.alloc (.cells #[.int .i64 4, .int .i64 10, .float .f64 4602678819172646912, .int .i64 0] 24)).alloc (.cells #[.int .i64 4, .int .i64 10, .float .f64 9221120237041090561, .int .i64 0] 24)).heap.size = w.heap.size + 2 := by show ((w.alloc (.cells #[.int .i64 4, .int .i64 10, .float .f64 4602678819172646912, .int .i64 0] 24)).heap.push _).size = _; rw [Array.size_push, s1]
  have r2 := heap_alloc_new (w.alloc (.cells #[.int .i64 4, .int .i64 10, .float .f64 4602678819172646912, .int .i64 0] 24)) (.cells #[.int .i64 0, .int .i64 0, .float .f64 0, .int .i64 0] 24)
  have r3 := heap_alloc_new ((w.alloc (.cells #[.int .i64 4, .int .i64 10, .float .f64 4602678819172646912, .int .i64 0] 24)).alloc (.cells #[.int .i64 4, .int .i64 10, .float .f64 9221120237041090561, .int .i64 0] 24)) (.cells #[.int .i64 0, .int .i64 0, .float .f64 0, .int .i64 0] 24)
  have e2 := World.setRow_alloc_new (w.alloc (.cells #[.int .i64 4, .int .i64 10, .float .f64 4602678819172646912, .int .i64 0] 24)) #[.int .i64 0, .int .i64 0, .float .f64 0, .int .i64 0] #[.int .i64 4, .int .i64 10, .float .f64 9221120237041090561, .int .i64 0] 24
  have e3 := World.setRow_alloc_new ((w.alloc (.cells #[.int .i64 4, .int .i64 10, .float .f64 4602678819172646912, .int .i64 0] 24)).alloc (.cells #[.int .i64 4, .int .i64 10, .float .f64 9221120237041090561, .int .i64 0] 24)) #[.int .i64 0, .int .i64 0, .float .f64 0, .int .i64 0] #[.int .i64 4, .int .i64 10, .float .f64 9223372036854775808, .int .i64 0] 24
  rw [s1] at r2 e2
  rw [s2] at r3 e3
  have RR2 := Lib.hid r2
  have RR3 := Lib.hid r3
  have EE2 := Lib.hid e2
  have EE3 := Lib.hid e3
  clear s1 s2 r2 r3 e2 e3
  clear p1 p2 p3 pb hW0
  go_enter Try.func20, Try.ntmps20
  go_wp2_with (first
    | (refine wpList_store_row rfl 24 _ _ rfl w.heap.size #[.int .i64 4, .int .i64 10, .float .f64 4602678819172646912, .int .i64 0] rfl rfl _ _ (heap_alloc_new _ _) (by kernel_rfl) rfl (by kernel_rfl) ?_; rw [World.setRow_alloc_new])
    | (refine wpList_store_row rfl 24 _ _ rfl (w.heap.size + 1) #[.int .i64 4, .int .i64 10, .float .f64 9221120237041090561, .int .i64 0] rfl rfl _ _ RR2.out (by kernel_rfl) rfl (by kernel_rfl) ?_; rw [EE2.out])
    | (refine wpList_store_row rfl 24 _ _ rfl (w.heap.size + 2) #[.int .i64 4, .int .i64 10, .float .f64 9223372036854775808, .int .i64 0] rfl rfl _ _ RR3.out (by kernel_rfl) rfl (by kernel_rfl) ?_; rw [EE3.out]))
  (try simp only [Nat.add_assoc, Nat.reduceAdd])
  rw [← HW0.out]
  have h0 := Below.refl W0.heap.size W0
  refine (I0.out _).mono ?_; rintro e wv ⟨rfl, rfl⟩
  go_wp2_with fail
  refine (I1.out _).mono ?_; rintro e wv ⟨rfl, rfl⟩
  go_wp2_with fail
  refine (I2.out _).mono ?_; rintro e wv ⟨rfl, rfl⟩
  go_wp2_with fail
  refine (I3.out _).mono ?_; rintro e wv ⟨rfl, rfl⟩
  go_wp2_with fail
  refine (I4.out _).mono ?_; rintro e wv ⟨rfl, rfl⟩
  go_wp2_with fail
  obtain ⟨c0, c1, c2, c3⟩ := cells4 (R1.out _ h0)
  refine (V0.out _).mono ?_; rintro e wv ⟨rfl, rfl⟩
  go_wp2_with fail
  clear c0 c1 c2 c3
  refine (K1.out _).mono ?_; rintro e v1 ⟨rfl, hb⟩
  have h1 := below_step h0 hb
  clear hb h0
  obtain ⟨c0, c1, c2, c3⟩ := cells4 (R1.out _ h1)
  go_wp2_with fail
  clear c0 c1 c2 c3
  refine (S1.out _).mono ?_; rintro e v2 ⟨rfl, hb⟩
  have h2 := below_step h1 hb
  clear hb h1
  obtain ⟨c0, c1, c2, c3⟩ := cells4 (R1.out _ h2)
  go_wp2_with fail
  clear c0 c1 c2 c3
  refine (Q1.out _).mono ?_; rintro e v3 ⟨rfl, hb⟩
  have h3 := below_step h2 hb
  clear hb h2
  obtain ⟨c0, c1, c2, c3⟩ := cells4 (R1.out _ h3)
  go_wp2_with fail
  clear c0 c1 c2 c3
  refine (B1.out _).mono ?_; rintro e v4 ⟨rfl, hb⟩
  have h4 := below_step h3 hb
  clear hb h3
  obtain ⟨c0, c1, c2, c3⟩ := cells4 (R2.out _ h4)
  go_wp2_with fail
  clear c0 c1 c2 c3
  refine (K2.out _).mono ?_; rintro e v5 ⟨rfl, hb⟩
  have h5 := below_step h4 hb
  clear hb h4
  obtain ⟨c0, c1, c2, c3⟩ := cells4 (R2.out _ h5)
  go_wp2_with fail
  clear c0 c1 c2 c3
  refine (Q2.out _).mono ?_; rintro e v6 ⟨rfl, hb⟩
  have h6 := below_step h5 hb
  clear hb h5
  obtain ⟨c0, c1, c2, c3⟩ := cells4 (R3.out _ h6)
  go_wp2_with fail
  clear c0 c1 c2 c3
  refine (K3.out _).mono ?_; rintro e v7 ⟨rfl, hb⟩
  have h7 := below_step h6 hb
  clear hb h6
  obtain ⟨c0, c1, c2, c3⟩ := cells4 (R3.out _ h7)
  go_wp2_with fail
  clear c0 c1 c2 c3
  refine (Q3.out _).mono ?_; rintro e v8 ⟨rfl, hb⟩
  have h8 := below_step h7 hb
  clear hb h7
  go_wp2_with fail
  refine (K4.out _).mono ?_; rintro e v9 ⟨rfl, hb⟩
  have h9 := below_step h8 hb
  clear hb h8
  go_wp2_with fail
  refine (K5.out _).mono ?_; rintro e v10 ⟨rfl, hb⟩
  have h10 := below_step h9 hb
  clear hb h9
  go_wp2_with fail
  refine (K6.out _).mono ?_; rintro e v11 ⟨rfl, hb⟩
  have h11 := below_step h10 hb
  clear hb h10
  go_wp2_with fail
  go_ret
  exact ⟨rfl, below_step PB.out h11⟩
end Go.Proofs.Ytpnehpkecfbneaa.G
