/- Package check: whether a conf may be. -/
import Derived.Test.YtpnehpkecfbneaaHf
import Derived.Deep.WholeRow
namespace Go.Proofs.Ytpnehpkecfbneaa.G
open Go.RowKit
set_option linter.unusedVariables false
set_option linter.unusedSimpArgs false

theorem lt_of_row' {W : World} {g : Nat} {o : Obj} (h : W.heap[g]? = some o) : g < W.heap.size := by
  rcases Nat.lt_or_ge g W.heap.size with h1 | h1
  · exact h1
  · rw [Array.getElem?_eq_none h1] at h; cases h
def okConf (s n r : Int) : Prop := (4 ≤ s ∧ s ≤ 16) ∧ (1 ≤ n ∧ n ≤ 30) ∧ (0 ≤ r ∧ r ≤ 8)
instance (s n r : Int) : Decidable (okConf s n r) := by unfold okConf; infer_instance

set_option maxRecDepth 100000 in
set_option maxHeartbeats 2000000 in
theorem Conf_val (s n r eS nS z : Int) (x : Nat) (w : World) (hS : okConf s n r → ∀ W, Calls Try.prog 26 #[.float .f64 x, .int .i64 1] W fun e w' => e = .returned (.tuple #[.int .i64 nS, .int .i64 eS]) ∧ W = w')
    (hz : Hid (z = if okConf s n r then eS else 1)) :
    Calls Try.prog 12 #[.agg #[.int .i64 s, .int .i64 n, .float .f64 x, .int .i64 r]] w fun e w' => e = .returned (.int .i64 z) ∧ Below w.heap.size w w' := by
  have hmf : ∀ (fn : Fn) (first cap : Array Value) (w : World), (Instr.makeFunc fn first cap).run Try.prog w = .ok (.func fn first cap) w := fun _ _ _ _ => rfl
  have HS := Lib.hid hS
  clear hS
  have hA := heap_alloc_new w (.cells #[.int .i64 s, .int .i64 n, .float .f64 x, .int .i64 r] 24)
  have hB := heap_alloc_new (w.alloc (.cells #[.int .i64 s, .int .i64 n, .float .f64 x, .int .i64 r] 24)) (.cells #[Value.func (.func 23) #[] #[], .int .i64 4, .int .i64 16, Value.func (.func 24) #[] #[], .int .i64 1, .int .i64 30, Value.func (.func 25) #[] #[], .int .i64 0, .int .i64 8] 36)
  have hs1 : (w.alloc (.cells #[.int .i64 s, .int .i64 n, .float .f64 x, .int .i64 r] 24)).heap.size = w.heap.size + 1 := by show (w.heap.push _).size = _; rw [Array.size_push]
  have hA2 := (heap_alloc_old (w.alloc (.cells #[.int .i64 s, .int .i64 n, .float .f64 x, .int .i64 r] 24)) (.cells #[Value.func (.func 23) #[] #[], .int .i64 4, .int .i64 16, Value.func (.func 24) #[] #[], .int .i64 1, .int .i64 30, Value.func (.func 25) #[] #[], .int .i64 0, .int .i64 8] 36) (show w.heap.size < (w.alloc (.cells #[.int .i64 s, .int .i64 n, .float .f64 x, .int .i64 r] 24)).heap.size by rw [hs1]; omega)).trans hA
  rw [hs1] at hB
  have hb := ((Below.refl w.heap.size w).alloc (Nat.le_refl _) (.cells #[.int .i64 s, .int .i64 n, .float .f64 x, .int .i64 r] 24)).alloc (by rw [hs1]; omega) (.cells #[Value.func (.func 23) #[] #[], .int .i64 4, .int .i64 16, Value.func (.func 24) #[] #[], .int .i64 1, .int .i64 30, Value.func (.func 25) #[] #[], .int .i64 0, .int .i64 8] 36)
  have HA := Lib.hid hA2
  have HB := Lib.hid hB
  have HBL := Lib.hid hb
  clear hA hB hA2 hb hs1
  go_enter Try.func12, Try.ntmps12
  go_wp2_with fail
  go_loopw [14] (fun i wr => ∃ k : Nat, k ≤ 3 ∧ i = .int .i64 k ∧ Below w.heap.size w wr ∧ wr.heap[w.heap.size]? = some (.cells #[.int .i64 s, .int .i64 n, .float .f64 x, .int .i64 r] 24 (0, 0)) ∧ wr.heap[w.heap.size + 1]? = some (.cells #[Value.func (.func 23) #[] #[], .int .i64 4, .int .i64 16, Value.func (.func 24) #[] #[], .int .i64 1, .int .i64 30, Value.func (.func 25) #[] #[], .int .i64 0, .int .i64 8] 36 (0, 0)) ∧
    (1 ≤ k → 4 ≤ s ∧ s ≤ 16) ∧ (2 ≤ k → 1 ≤ n ∧ n ≤ 30) ∧ (3 ≤ k → 0 ≤ r ∧ r ≤ 8)) (fun i _ => 3 - (intOf i).toNat)
  case atStart => exact ⟨0, by omega, rfl, HBL.out, HA.out, HB.out, by omega, by omega, by omega⟩
  case round =>
    obtain ⟨k, hk, rfl, hbl, ha, hb, p1, p2, p3⟩ := hrel
    have hc : k = 0 ∨ k = 1 ∨ k = 2 ∨ k = 3 := by omega
    have HA2 := Lib.hid ha
    have HB2 := Lib.hid hb
    clear HA HB HBL
    rcases hc with rfl | rfl | rfl | rfl
    · have c0 := (cell_of_row _ _ 0 _ _ _ hb).trans (show _ = some (Value.func (.func 23) #[] #[]) from rfl)
      have c1 := (cell_of_row _ _ 1 _ _ _ hb).trans (show _ = some (Value.int .i64 4) from rfl)
      have c2 := (cell_of_row _ _ 2 _ _ _ hb).trans (show _ = some (Value.int .i64 16) from rfl)
      clear ha hb
      have hA3 := (heap_alloc_old wr (.cells #[Value.func (.func 23) #[] #[], .int .i64 4, .int .i64 16] 36) (lt_of_row' HA2.out)).trans HA2.out
      have hB3 := (heap_alloc_old wr (.cells #[Value.func (.func 23) #[] #[], .int .i64 4, .int .i64 16] 36) (lt_of_row' HB2.out)).trans HB2.out
      have hbl2 := hbl.alloc hbl.size (.cells #[Value.func (.func 23) #[] #[], .int .i64 4, .int .i64 16] 36)
      have HA3 := Lib.hid hA3
      have HB3 := Lib.hid hB3
      have HBL2 := Lib.hid hbl2
      have P1 := Lib.hid p1
      have P2 := Lib.hid p2
      have P3 := Lib.hid p3
      clear hA3 hB3 hbl2 p1 p2 p3 hbl
      go_wp2_with (refine wpList_store_row rfl 36 _ _ rfl wr.heap.size #[Value.func (.func 23) #[] #[], .int .i64 4, .int .i64 16] rfl rfl _ _ (heap_alloc_new _ _) (by kernel_rfl) rfl (by kernel_rfl) ?_; rw [World.setRow_alloc_new])
      by_cases h1 : s < 4
      · refine (wrong_2_low s n r 4 16 x w.heap.size _ HA3.out h1).mono ?_; rintro e w1 ⟨rfl, hb1⟩
        have e : z = 1 := by rw [hz.out]; exact if_neg (fun h => by unfold okConf at h; omega)
        subst e
        go_wp2_with fail
        go_ret
        exact ⟨rfl, below_step HBL2.out hb1⟩
      · by_cases h2 : 16 < s
        · refine (wrong_2_high s n r 4 16 x w.heap.size _ HA3.out h1 h2).mono ?_; rintro e w1 ⟨rfl, hb1⟩
          have e : z = 1 := by rw [hz.out]; exact if_neg (fun h => by unfold okConf at h; omega)
          subst e
          go_wp2_with fail
          go_ret
          exact ⟨rfl, below_step HBL2.out hb1⟩
        · refine (wrong_2_ok s n r 4 16 x w.heap.size _ HA3.out h1 h2).mono ?_; rintro e w1 ⟨rfl, hb1⟩
          have hA5 := (hb1.block _ (lt_of_row' HA3.out)).trans HA3.out
          have hB5 := (hb1.block _ (lt_of_row' HB3.out)).trans HB3.out
          have hbf := below_step HBL2.out hb1
          have H1 := Lib.hid h1
          have H2 := Lib.hid h2
          clear h1 h2 hb1
          have HA5 := Lib.hid hA5
          have HB5 := Lib.hid hB5
          clear hA5 hB5
          go_wp2_with fail
          go_roundw
          case rel => exact ⟨1, by omega, by first | rfl | go_num, hbf, HA5.out, HB5.out, fun _ => ⟨by have := H1.out; omega, by have := H2.out; omega⟩, fun h => absurd h (by omega), fun h => absurd h (by omega)⟩
          case measure => simp [intOf]
    · have c0 := (cell_of_row _ _ 3 _ _ _ hb).trans (show _ = some (Value.func (.func 24) #[] #[]) from rfl)
      have c1 := (cell_of_row _ _ 4 _ _ _ hb).trans (show _ = some (Value.int .i64 1) from rfl)
      have c2 := (cell_of_row _ _ 5 _ _ _ hb).trans (show _ = some (Value.int .i64 30) from rfl)
      clear ha hb
      have hA3 := (heap_alloc_old wr (.cells #[Value.func (.func 24) #[] #[], .int .i64 1, .int .i64 30] 36) (lt_of_row' HA2.out)).trans HA2.out
      have hB3 := (heap_alloc_old wr (.cells #[Value.func (.func 24) #[] #[], .int .i64 1, .int .i64 30] 36) (lt_of_row' HB2.out)).trans HB2.out
      have hbl2 := hbl.alloc hbl.size (.cells #[Value.func (.func 24) #[] #[], .int .i64 1, .int .i64 30] 36)
      have HA3 := Lib.hid hA3
      have HB3 := Lib.hid hB3
      have HBL2 := Lib.hid hbl2
      have P1 := Lib.hid p1
      have P2 := Lib.hid p2
      have P3 := Lib.hid p3
      clear hA3 hB3 hbl2 p1 p2 p3 hbl
      go_wp2_with (refine wpList_store_row rfl 36 _ _ rfl wr.heap.size #[Value.func (.func 24) #[] #[], .int .i64 1, .int .i64 30] rfl rfl _ _ (heap_alloc_new _ _) (by kernel_rfl) rfl (by kernel_rfl) ?_; rw [World.setRow_alloc_new])
      by_cases h1 : n < 1
      · refine (wrong_3_low s n r 1 30 x w.heap.size _ HA3.out h1).mono ?_; rintro e w1 ⟨rfl, hb1⟩
        have e : z = 1 := by rw [hz.out]; exact if_neg (fun h => by unfold okConf at h; omega)
        subst e
        go_wp2_with fail
        go_ret
        exact ⟨rfl, below_step HBL2.out hb1⟩
      · by_cases h2 : 30 < n
        · refine (wrong_3_high s n r 1 30 x w.heap.size _ HA3.out h1 h2).mono ?_; rintro e w1 ⟨rfl, hb1⟩
          have e : z = 1 := by rw [hz.out]; exact if_neg (fun h => by unfold okConf at h; omega)
          subst e
          go_wp2_with fail
          go_ret
          exact ⟨rfl, below_step HBL2.out hb1⟩
        · refine (wrong_3_ok s n r 1 30 x w.heap.size _ HA3.out h1 h2).mono ?_; rintro e w1 ⟨rfl, hb1⟩
          have hA5 := (hb1.block _ (lt_of_row' HA3.out)).trans HA3.out
          have hB5 := (hb1.block _ (lt_of_row' HB3.out)).trans HB3.out
          have hbf := below_step HBL2.out hb1
          have H1 := Lib.hid h1
          have H2 := Lib.hid h2
          clear h1 h2 hb1
          have HA5 := Lib.hid hA5
          have HB5 := Lib.hid hB5
          clear hA5 hB5
          go_wp2_with fail
          go_roundw
          case rel => exact ⟨2, by omega, by first | rfl | go_num, hbf, HA5.out, HB5.out, fun _ => P1.out (by omega), fun h => ⟨by have := H1.out; omega, by have := H2.out; omega⟩, fun h => absurd h (by omega)⟩
          case measure => simp [intOf]
    · have c0 := (cell_of_row _ _ 6 _ _ _ hb).trans (show _ = some (Value.func (.func 25) #[] #[]) from rfl)
      have c1 := (cell_of_row _ _ 7 _ _ _ hb).trans (show _ = some (Value.int .i64 0) from rfl)
      have c2 := (cell_of_row _ _ 8 _ _ _ hb).trans (show _ = some (Value.int .i64 8) from rfl)
      clear ha hb
      have hA3 := (heap_alloc_old wr (.cells #[Value.func (.func 25) #[] #[], .int .i64 0, .int .i64 8] 36) (lt_of_row' HA2.out)).trans HA2.out
      have hB3 := (heap_alloc_old wr (.cells #[Value.func (.func 25) #[] #[], .int .i64 0, .int .i64 8] 36) (lt_of_row' HB2.out)).trans HB2.out
      have hbl2 := hbl.alloc hbl.size (.cells #[Value.func (.func 25) #[] #[], .int .i64 0, .int .i64 8] 36)
      have HA3 := Lib.hid hA3
      have HB3 := Lib.hid hB3
      have HBL2 := Lib.hid hbl2
      have P1 := Lib.hid p1
      have P2 := Lib.hid p2
      have P3 := Lib.hid p3
      clear hA3 hB3 hbl2 p1 p2 p3 hbl
      go_wp2_with (refine wpList_store_row rfl 36 _ _ rfl wr.heap.size #[Value.func (.func 25) #[] #[], .int .i64 0, .int .i64 8] rfl rfl _ _ (heap_alloc_new _ _) (by kernel_rfl) rfl (by kernel_rfl) ?_; rw [World.setRow_alloc_new])
      by_cases h1 : r < 0
      · refine (wrong_4_low s n r 0 8 x w.heap.size _ HA3.out h1).mono ?_; rintro e w1 ⟨rfl, hb1⟩
        have e : z = 1 := by rw [hz.out]; exact if_neg (fun h => by unfold okConf at h; omega)
        subst e
        go_wp2_with fail
        go_ret
        exact ⟨rfl, below_step HBL2.out hb1⟩
      · by_cases h2 : 8 < r
        · refine (wrong_4_high s n r 0 8 x w.heap.size _ HA3.out h1 h2).mono ?_; rintro e w1 ⟨rfl, hb1⟩
          have e : z = 1 := by rw [hz.out]; exact if_neg (fun h => by unfold okConf at h; omega)
          subst e
          go_wp2_with fail
          go_ret
          exact ⟨rfl, below_step HBL2.out hb1⟩
        · refine (wrong_4_ok s n r 0 8 x w.heap.size _ HA3.out h1 h2).mono ?_; rintro e w1 ⟨rfl, hb1⟩
          have hA5 := (hb1.block _ (lt_of_row' HA3.out)).trans HA3.out
          have hB5 := (hb1.block _ (lt_of_row' HB3.out)).trans HB3.out
          have hbf := below_step HBL2.out hb1
          have H1 := Lib.hid h1
          have H2 := Lib.hid h2
          clear h1 h2 hb1
          have HA5 := Lib.hid hA5
          have HB5 := Lib.hid hB5
          clear hA5 hB5
          go_wp2_with fail
          go_roundw
          case rel => exact ⟨3, by omega, by first | rfl | go_num, hbf, HA5.out, HB5.out, fun _ => P1.out (by omega), fun h => P2.out (by omega), fun h => ⟨by have := H1.out; omega, by have := H2.out; omega⟩⟩
          case measure => simp [intOf]
    · have hok : okConf s n r := ⟨p1 (by omega), p2 (by omega), p3 (by omega)⟩
      have e : z = eS := by rw [hz.out]; exact if_pos hok
      subst e
      have c2 := (cell_of_row _ _ 2 _ _ _ ha).trans (show _ = some (Value.float .f64 x) from rfl)
      have HSO := Lib.hid (HS.out hok)
      clear p1 p2 p3 hok ha hb
      go_wp2_with fail
      refine (HSO.out _).mono ?_; rintro e w1 ⟨rfl, rfl⟩
      go_wp2_with fail
      go_ret
      exact ⟨rfl, hbl⟩
end Go.Proofs.Ytpnehpkecfbneaa.G
