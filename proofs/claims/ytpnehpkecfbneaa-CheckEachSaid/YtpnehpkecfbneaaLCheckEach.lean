/- CheckEach: whatever the conf, the field and its number, the law answers true. No condition. -/
import Derived.Test.YtpnehpkecfbneaaHz
import Derived.Test.YtpnehpkecfbneaaHh
import Derived.Test.YtpnehpkecfbneaaGOpn
namespace Go.Proofs.Ytpnehpkecfbneaa.L
open Go.RowKit Go.Proofs.Ytpnehpkecfbneaa.G
set_option linter.unusedVariables false
set_option linter.unusedSimpArgs false

theorem open_conf {w : World} {v : Value} (o : Row.Opn Try.prog w 24 v) : ∃ (s n r : Int) (x : Nat), v = .agg #[.int .i64 s, .int .i64 n, .float .f64 x, .int .i64 r] ∧ x < 18446744073709551616 := by
  obtain ⟨⟨m, ho⟩, b, hk⟩ := o
  have hu := Try.underlying24
  obtain ⟨hl, hf⟩ := Row.opn_struct ho hu
  simp only [Value.okWide] at hk
  rw [hu] at hk
  obtain ⟨cs, rfl, hsz, _⟩ := hk
  simp only [Value.cells] at hl hf
  have h4 : cs.toList.length = 4 := hl.trans (by kernel_rfl)
  have k1 : Try.prog.cellsOf 3 = 1 := by kernel_rfl
  have k2 : Try.prog.cellsOf 22 = 1 := by kernel_rfl
  obtain ⟨l, hcl⟩ : ∃ l, cs = l.toArray := ⟨cs.toList, by simp⟩
  subst hcl
  simp only [List.toList_toArray] at hf h4
  match l, h4 with
  | [x0, x1, x2, x3], _ =>
    have f0 : Row.opn Try.prog w (m - 1) 3 [x0] := by
      have h : Row.opn Try.prog w (m - 1) 3 (([x0, x1, x2, x3].drop 0).take (Try.prog.cellsOf 3)) := hf 0 _ rfl
      rw [k1] at h; exact h
    have f1 : Row.opn Try.prog w (m - 1) 3 [x1] := by
      have h : Row.opn Try.prog w (m - 1) 3 (([x0, x1, x2, x3].drop 1).take (Try.prog.cellsOf 3)) := hf 1 _ rfl
      rw [k1] at h; exact h
    have f2 : Row.opn Try.prog w (m - 1) 22 [x2] := by
      have h : Row.opn Try.prog w (m - 1) 22 (([x0, x1, x2, x3].drop 2).take (Try.prog.cellsOf 22)) := hf 2 _ rfl
      rw [k2] at h; exact h
    have f3 : Row.opn Try.prog w (m - 1) 3 [x3] := by
      have h : Row.opn Try.prog w (m - 1) 3 (([x0, x1, x2, x3].drop 3).take (Try.prog.cellsOf 3)) := hf 3 _ rfl
      rw [k1] at h; exact h
    obtain ⟨z0, e0, _⟩ := Row.opn_int f0 Try.underlying3
    obtain ⟨z1, e1, _⟩ := Row.opn_int f1 Try.underlying3
    obtain ⟨z2, e2, w2⟩ := Row.opn_float f2 Try.underlying22
    obtain ⟨z3, e3, _⟩ := Row.opn_int f3 Try.underlying3
    cases e0; cases e1; cases e2; cases e3
    refine ⟨z0, z1, z3, z2, rfl, ?_⟩
    simpa [Lit.wf] using w2

theorem two_new' (w : World) (o1 o2 : Obj) : ((w.alloc o1).alloc o2).heap[w.heap.size]? = some o1 ∧ ((w.alloc o1).alloc o2).heap[w.heap.size + 1]? = some o2 ∧ Below w.heap.size w ((w.alloc o1).alloc o2) := by
  have hs : (w.alloc o1).heap.size = w.heap.size + 1 := by show (w.heap.push o1).size = _; rw [Array.size_push]
  have hn2 := heap_alloc_new (w.alloc o1) o2
  rw [hs] at hn2
  refine ⟨?_, hn2, ((Below.refl _ _).alloc (Nat.le_refl _) _).alloc (by rw [hs]; omega) _⟩
  rw [heap_alloc_old _ _ (by rw [hs]; omega)]; exact heap_alloc_new w o1

set_option maxRecDepth 100000 in
set_option maxHeartbeats 2000000 in
theorem each_0 (s n r q : Int) (x p : Nat) (w : World) (hx : x < 18446744073709551616) (hp : p < 256) (hm : (p : Int).tmod 3 = 0) :
    Calls Try.prog 6 #[.agg #[.int .i64 s, .int .i64 n, .float .f64 x, .int .i64 r], .int .u8 p, .int .i64 q] w fun e w' => e = .returned (.bool true) ∧ Below w.heap.size w w' := by
  obtain ⟨nS, eS, heS, hS⟩ := Share_any x hx
  have HS := Lib.hid hS
  have HES := Lib.hid heS
  obtain ⟨pa, pd, pb⟩ := two_new' w (.cells #[.int .i64 s, .int .i64 n, .float .f64 x, .int .i64 r] 24) (.cells #[.int .i64 s, .int .i64 n, .float .f64 x, .int .i64 r] 24)
  have hs1 : (w.alloc (.cells #[.int .i64 s, .int .i64 n, .float .f64 x, .int .i64 r] 24)).heap.size = w.heap.size + 1 := by show (w.heap.push _).size = _; rw [Array.size_push]
  have r2 := heap_alloc_new (w.alloc (.cells #[.int .i64 s, .int .i64 n, .float .f64 x, .int .i64 r] 24)) (.cells #[.int .i64 0, .int .i64 0, .float .f64 0, .int .i64 0] 24)
  have e2 := World.setRow_alloc_new (w.alloc (.cells #[.int .i64 s, .int .i64 n, .float .f64 x, .int .i64 r] 24)) #[.int .i64 0, .int .i64 0, .float .f64 0, .int .i64 0] #[.int .i64 s, .int .i64 n, .float .f64 x, .int .i64 r] 24
  rw [hs1] at r2 e2
  obtain ⟨W1, hW1⟩ : ∃ V0, V0 = (w.alloc (.cells #[.int .i64 s, .int .i64 n, .float .f64 x, .int .i64 r] 24)).alloc (.cells #[.int .i64 s, .int .i64 n, .float .f64 x, .int .i64 r] 24) := ⟨_, rfl⟩
  rw [← hW1] at pa pd pb e2
  have ca := (cell_of_row _ _ 0 _ _ _ pd).trans (show _ = some (Value.int .i64 s) from rfl)
  have fa := frozen_of_row _ _ 0 _ _ pd
  obtain ⟨W2, hW2⟩ : ∃ V0, V0 = W1.setCell ⟨w.heap.size + 1, 0, none⟩ (.int .i64 q) := ⟨_, rfl⟩
  have pb2 : Below w.heap.size w W2 := by rw [hW2]; exact pb.setCell (by show w.heap.size ≤ w.heap.size + 1; omega) _
  have pd2 : W2.heap[w.heap.size + 1]? = some (.cells #[.int .i64 q, .int .i64 n, .float .f64 x, .int .i64 r] 24 (0, 0)) := by rw [hW2, heap_setCell_same _ _ _ _ _ _ pd]; rfl
  have pa2 : W2.heap[w.heap.size]? = some (.cells #[.int .i64 s, .int .i64 n, .float .f64 x, .int .i64 r] 24 (0, 0)) := by rw [hW2, heap_setCell_other _ _ _ _ (by show w.heap.size ≠ w.heap.size + 1; omega)]; exact pa
  have RR2 := Lib.hid r2
  have EE2 := Lib.hid e2
  have HW1 := Lib.hid hW1
  have HW2 := Lib.hid hW2
  have PB2 := Lib.hid pb2
  have RA : Hid (∀ V, Below W2.heap.size W2 V → V.heap[w.heap.size]? = some (.cells #[.int .i64 s, .int .i64 n, .float .f64 x, .int .i64 r] 24 (0, 0))) := Lib.hid (fun V h => (h.block _ (lt_of_row' pa2)).trans pa2)
  have RD : Hid (∀ V, Below W2.heap.size W2 V → V.heap[w.heap.size + 1]? = some (.cells #[.int .i64 q, .int .i64 n, .float .f64 x, .int .i64 r] 24 (0, 0))) := Lib.hid (fun V h => (h.block _ (lt_of_row' pd2)).trans pd2)
  clear hS heS r2 e2 hW1 hW2 pb pb2 pd2 pa2 pa pd hs1 hx
  have hb0 := Below.refl W2.heap.size W2
  by_cases h1 : q < 4
  · have d1 : decide (q < 4) = true := decide_eq_true h1
    obtain ⟨c0, c1, c2, c3⟩ := cells4 (RD.out _ hb0)
    rw [HW2.out] at c0 c1 c2 c3
    go_enter Try.func6, Try.ntmps6
    go_wp2_with (refine wpList_store_row rfl 24 _ _ rfl (w.heap.size + 1) #[.int .i64 s, .int .i64 n, .float .f64 x, .int .i64 r] rfl rfl _ _ RR2.out (by kernel_rfl) rfl (by kernel_rfl) ?_; rw [EE2.out])
    rw [← HW2.out]
    clear c0 c1 c2 c3
    refine (Conf_val q n r eS nS 1 x _ (fun _ => HS.out) (Lib.hid (if_neg (fun h => by unfold okConf at h; omega)).symm)).mono ?_; rintro e w3 ⟨rfl, hb⟩
    have h3 := below_step hb0 hb
    clear hb
    go_wp2_with fail
    refine (fixed_val _).mono ?_; rintro e w4 ⟨rfl, h4⟩
    go_wp2_with fail
    go_ret
    exact ⟨rfl, below_step PB2.out (below_step h3 h4)⟩
  · by_cases h2 : 16 < q
    · have d1 : decide (q < 4) = false := decide_eq_false h1
      have d2 : decide (16 < q) = true := decide_eq_true h2
      obtain ⟨c0, c1, c2, c3⟩ := cells4 (RD.out _ hb0)
      rw [HW2.out] at c0 c1 c2 c3
      go_enter Try.func6, Try.ntmps6
      go_wp2_with (refine wpList_store_row rfl 24 _ _ rfl (w.heap.size + 1) #[.int .i64 s, .int .i64 n, .float .f64 x, .int .i64 r] rfl rfl _ _ RR2.out (by kernel_rfl) rfl (by kernel_rfl) ?_; rw [EE2.out])
      rw [← HW2.out]
      clear c0 c1 c2 c3
      refine (Conf_val q n r eS nS 1 x _ (fun _ => HS.out) (Lib.hid (if_neg (fun h => by unfold okConf at h; omega)).symm)).mono ?_; rintro e w3 ⟨rfl, hb⟩
      have h3 := below_step hb0 hb
      clear hb
      go_wp2_with fail
      refine (fixed_val _).mono ?_; rintro e w4 ⟨rfl, h4⟩
      go_wp2_with fail
      go_ret
      exact ⟨rfl, below_step PB2.out (below_step h3 h4)⟩
    · have d1 : decide (q < 4) = false := decide_eq_false h1
      have d2 : decide (16 < q) = false := decide_eq_false h2
      by_cases hz : okConf s n r ∧ eS = 0
      · have hd : okConf q n r := by have h := hz.1; unfold okConf at h ⊢; omega
        have KC := Lib.hid (fun W => Conf_val s n r eS nS 0 x W (fun _ => HS.out) (Lib.hid (by rw [if_pos hz.1]; exact hz.2.symm)))
        have KD := Lib.hid (fun W => Conf_val q n r eS nS 0 x W (fun _ => HS.out) (Lib.hid (by rw [if_pos hd]; exact hz.2.symm)))
        clear hz hd
        obtain ⟨c0, c1, c2, c3⟩ := cells4 (RA.out _ hb0)
        rw [HW2.out] at c0 c1 c2 c3
        go_enter Try.func6, Try.ntmps6
        go_wp2_with (refine wpList_store_row rfl 24 _ _ rfl (w.heap.size + 1) #[.int .i64 s, .int .i64 n, .float .f64 x, .int .i64 r] rfl rfl _ _ RR2.out (by kernel_rfl) rfl (by kernel_rfl) ?_; rw [EE2.out])
        rw [← HW2.out]
        clear c0 c1 c2 c3
        refine (KC.out _).mono ?_; rintro e w3 ⟨rfl, hb⟩
        have h3 := below_step hb0 hb
        clear hb
        obtain ⟨c0, c1, c2, c3⟩ := cells4 (RD.out _ h3)
        go_wp2_with fail
        clear c0 c1 c2 c3
        refine (KD.out _).mono ?_; rintro e w5 ⟨rfl, hb⟩
        have h5 := below_step h3 hb
        clear hb h3
        go_wp2_with fail
        refine (fixed_val _).mono ?_; rintro e w4 ⟨rfl, h4⟩
        go_wp2_with fail
        go_ret
        exact ⟨rfl, below_step PB2.out (below_step h5 h4)⟩
      · have KC := Lib.hid (fun W => Conf_val s n r eS nS 1 x W (fun _ => HS.out) (Lib.hid (by
          by_cases hk : okConf s n r
          · rw [if_pos hk]
            rcases HES.out with h | h
            · exact absurd ⟨hk, h⟩ hz
            · exact h.symm
          · rw [if_neg hk])))
        clear hz
        obtain ⟨c0, c1, c2, c3⟩ := cells4 (RA.out _ hb0)
        rw [HW2.out] at c0 c1 c2 c3
        go_enter Try.func6, Try.ntmps6
        go_wp2_with (refine wpList_store_row rfl 24 _ _ rfl (w.heap.size + 1) #[.int .i64 s, .int .i64 n, .float .f64 x, .int .i64 r] rfl rfl _ _ RR2.out (by kernel_rfl) rfl (by kernel_rfl) ?_; rw [EE2.out])
        rw [← HW2.out]
        clear c0 c1 c2 c3
        refine (KC.out _).mono ?_; rintro e w3 ⟨rfl, hb⟩
        have h3 := below_step hb0 hb
        clear hb
        go_wp2_with fail
        refine (fixed_val _).mono ?_; rintro e w4 ⟨rfl, h4⟩
        go_wp2_with fail
        go_ret
        exact ⟨rfl, below_step PB2.out (below_step h3 h4)⟩

set_option maxRecDepth 100000 in
set_option maxHeartbeats 2000000 in
theorem each_1 (s n r q : Int) (x p : Nat) (w : World) (hx : x < 18446744073709551616) (hp : p < 256) (hm : (p : Int).tmod 3 = 1) :
    Calls Try.prog 6 #[.agg #[.int .i64 s, .int .i64 n, .float .f64 x, .int .i64 r], .int .u8 p, .int .i64 q] w fun e w' => e = .returned (.bool true) ∧ Below w.heap.size w w' := by
  obtain ⟨nS, eS, heS, hS⟩ := Share_any x hx
  have HS := Lib.hid hS
  have HES := Lib.hid heS
  obtain ⟨pa, pd, pb⟩ := two_new' w (.cells #[.int .i64 s, .int .i64 n, .float .f64 x, .int .i64 r] 24) (.cells #[.int .i64 s, .int .i64 n, .float .f64 x, .int .i64 r] 24)
  have hs1 : (w.alloc (.cells #[.int .i64 s, .int .i64 n, .float .f64 x, .int .i64 r] 24)).heap.size = w.heap.size + 1 := by show (w.heap.push _).size = _; rw [Array.size_push]
  have r2 := heap_alloc_new (w.alloc (.cells #[.int .i64 s, .int .i64 n, .float .f64 x, .int .i64 r] 24)) (.cells #[.int .i64 0, .int .i64 0, .float .f64 0, .int .i64 0] 24)
  have e2 := World.setRow_alloc_new (w.alloc (.cells #[.int .i64 s, .int .i64 n, .float .f64 x, .int .i64 r] 24)) #[.int .i64 0, .int .i64 0, .float .f64 0, .int .i64 0] #[.int .i64 s, .int .i64 n, .float .f64 x, .int .i64 r] 24
  rw [hs1] at r2 e2
  obtain ⟨W1, hW1⟩ : ∃ V0, V0 = (w.alloc (.cells #[.int .i64 s, .int .i64 n, .float .f64 x, .int .i64 r] 24)).alloc (.cells #[.int .i64 s, .int .i64 n, .float .f64 x, .int .i64 r] 24) := ⟨_, rfl⟩
  rw [← hW1] at pa pd pb e2
  have ca := (cell_of_row _ _ 1 _ _ _ pd).trans (show _ = some (Value.int .i64 n) from rfl)
  have fa := frozen_of_row _ _ 1 _ _ pd
  obtain ⟨W2, hW2⟩ : ∃ V0, V0 = W1.setCell ⟨w.heap.size + 1, 1, none⟩ (.int .i64 q) := ⟨_, rfl⟩
  have pb2 : Below w.heap.size w W2 := by rw [hW2]; exact pb.setCell (by show w.heap.size ≤ w.heap.size + 1; omega) _
  have pd2 : W2.heap[w.heap.size + 1]? = some (.cells #[.int .i64 s, .int .i64 q, .float .f64 x, .int .i64 r] 24 (0, 0)) := by rw [hW2, heap_setCell_same _ _ _ _ _ _ pd]; rfl
  have pa2 : W2.heap[w.heap.size]? = some (.cells #[.int .i64 s, .int .i64 n, .float .f64 x, .int .i64 r] 24 (0, 0)) := by rw [hW2, heap_setCell_other _ _ _ _ (by show w.heap.size ≠ w.heap.size + 1; omega)]; exact pa
  have RR2 := Lib.hid r2
  have EE2 := Lib.hid e2
  have HW1 := Lib.hid hW1
  have HW2 := Lib.hid hW2
  have PB2 := Lib.hid pb2
  have RA : Hid (∀ V, Below W2.heap.size W2 V → V.heap[w.heap.size]? = some (.cells #[.int .i64 s, .int .i64 n, .float .f64 x, .int .i64 r] 24 (0, 0))) := Lib.hid (fun V h => (h.block _ (lt_of_row' pa2)).trans pa2)
  have RD : Hid (∀ V, Below W2.heap.size W2 V → V.heap[w.heap.size + 1]? = some (.cells #[.int .i64 s, .int .i64 q, .float .f64 x, .int .i64 r] 24 (0, 0))) := Lib.hid (fun V h => (h.block _ (lt_of_row' pd2)).trans pd2)
  clear hS heS r2 e2 hW1 hW2 pb pb2 pd2 pa2 pa pd hs1 hx
  have hb0 := Below.refl W2.heap.size W2
  by_cases h1 : q < 1
  · have d1 : decide (q < 1) = true := decide_eq_true h1
    obtain ⟨c0, c1, c2, c3⟩ := cells4 (RD.out _ hb0)
    rw [HW2.out] at c0 c1 c2 c3
    go_enter Try.func6, Try.ntmps6
    go_wp2_with (refine wpList_store_row rfl 24 _ _ rfl (w.heap.size + 1) #[.int .i64 s, .int .i64 n, .float .f64 x, .int .i64 r] rfl rfl _ _ RR2.out (by kernel_rfl) rfl (by kernel_rfl) ?_; rw [EE2.out])
    rw [← HW2.out]
    clear c0 c1 c2 c3
    refine (Conf_val s q r eS nS 1 x _ (fun _ => HS.out) (Lib.hid (if_neg (fun h => by unfold okConf at h; omega)).symm)).mono ?_; rintro e w3 ⟨rfl, hb⟩
    have h3 := below_step hb0 hb
    clear hb
    go_wp2_with fail
    refine (fixed_val _).mono ?_; rintro e w4 ⟨rfl, h4⟩
    go_wp2_with fail
    go_ret
    exact ⟨rfl, below_step PB2.out (below_step h3 h4)⟩
  · by_cases h2 : 30 < q
    · have d1 : decide (q < 1) = false := decide_eq_false h1
      have d2 : decide (30 < q) = true := decide_eq_true h2
      obtain ⟨c0, c1, c2, c3⟩ := cells4 (RD.out _ hb0)
      rw [HW2.out] at c0 c1 c2 c3
      go_enter Try.func6, Try.ntmps6
      go_wp2_with (refine wpList_store_row rfl 24 _ _ rfl (w.heap.size + 1) #[.int .i64 s, .int .i64 n, .float .f64 x, .int .i64 r] rfl rfl _ _ RR2.out (by kernel_rfl) rfl (by kernel_rfl) ?_; rw [EE2.out])
      rw [← HW2.out]
      clear c0 c1 c2 c3
      refine (Conf_val s q r eS nS 1 x _ (fun _ => HS.out) (Lib.hid (if_neg (fun h => by unfold okConf at h; omega)).symm)).mono ?_; rintro e w3 ⟨rfl, hb⟩
      have h3 := below_step hb0 hb
      clear hb
      go_wp2_with fail
      refine (fixed_val _).mono ?_; rintro e w4 ⟨rfl, h4⟩
      go_wp2_with fail
      go_ret
      exact ⟨rfl, below_step PB2.out (below_step h3 h4)⟩
    · have d1 : decide (q < 1) = false := decide_eq_false h1
      have d2 : decide (30 < q) = false := decide_eq_false h2
      by_cases hz : okConf s n r ∧ eS = 0
      · have hd : okConf s q r := by have h := hz.1; unfold okConf at h ⊢; omega
        have KC := Lib.hid (fun W => Conf_val s n r eS nS 0 x W (fun _ => HS.out) (Lib.hid (by rw [if_pos hz.1]; exact hz.2.symm)))
        have KD := Lib.hid (fun W => Conf_val s q r eS nS 0 x W (fun _ => HS.out) (Lib.hid (by rw [if_pos hd]; exact hz.2.symm)))
        clear hz hd
        obtain ⟨c0, c1, c2, c3⟩ := cells4 (RA.out _ hb0)
        rw [HW2.out] at c0 c1 c2 c3
        go_enter Try.func6, Try.ntmps6
        go_wp2_with (refine wpList_store_row rfl 24 _ _ rfl (w.heap.size + 1) #[.int .i64 s, .int .i64 n, .float .f64 x, .int .i64 r] rfl rfl _ _ RR2.out (by kernel_rfl) rfl (by kernel_rfl) ?_; rw [EE2.out])
        rw [← HW2.out]
        clear c0 c1 c2 c3
        refine (KC.out _).mono ?_; rintro e w3 ⟨rfl, hb⟩
        have h3 := below_step hb0 hb
        clear hb
        obtain ⟨c0, c1, c2, c3⟩ := cells4 (RD.out _ h3)
        go_wp2_with fail
        clear c0 c1 c2 c3
        refine (KD.out _).mono ?_; rintro e w5 ⟨rfl, hb⟩
        have h5 := below_step h3 hb
        clear hb h3
        go_wp2_with fail
        refine (fixed_val _).mono ?_; rintro e w4 ⟨rfl, h4⟩
        go_wp2_with fail
        go_ret
        exact ⟨rfl, below_step PB2.out (below_step h5 h4)⟩
      · have KC := Lib.hid (fun W => Conf_val s n r eS nS 1 x W (fun _ => HS.out) (Lib.hid (by
          by_cases hk : okConf s n r
          · rw [if_pos hk]
            rcases HES.out with h | h
            · exact absurd ⟨hk, h⟩ hz
            · exact h.symm
          · rw [if_neg hk])))
        clear hz
        obtain ⟨c0, c1, c2, c3⟩ := cells4 (RA.out _ hb0)
        rw [HW2.out] at c0 c1 c2 c3
        go_enter Try.func6, Try.ntmps6
        go_wp2_with (refine wpList_store_row rfl 24 _ _ rfl (w.heap.size + 1) #[.int .i64 s, .int .i64 n, .float .f64 x, .int .i64 r] rfl rfl _ _ RR2.out (by kernel_rfl) rfl (by kernel_rfl) ?_; rw [EE2.out])
        rw [← HW2.out]
        clear c0 c1 c2 c3
        refine (KC.out _).mono ?_; rintro e w3 ⟨rfl, hb⟩
        have h3 := below_step hb0 hb
        clear hb
        go_wp2_with fail
        refine (fixed_val _).mono ?_; rintro e w4 ⟨rfl, h4⟩
        go_wp2_with fail
        go_ret
        exact ⟨rfl, below_step PB2.out (below_step h3 h4)⟩

set_option maxRecDepth 100000 in
set_option maxHeartbeats 2000000 in
theorem each_2 (s n r q : Int) (x p : Nat) (w : World) (hx : x < 18446744073709551616) (hp : p < 256) (hm : (p : Int).tmod 3 = 2) :
    Calls Try.prog 6 #[.agg #[.int .i64 s, .int .i64 n, .float .f64 x, .int .i64 r], .int .u8 p, .int .i64 q] w fun e w' => e = .returned (.bool true) ∧ Below w.heap.size w w' := by
  obtain ⟨nS, eS, heS, hS⟩ := Share_any x hx
  have HS := Lib.hid hS
  have HES := Lib.hid heS
  obtain ⟨pa, pd, pb⟩ := two_new' w (.cells #[.int .i64 s, .int .i64 n, .float .f64 x, .int .i64 r] 24) (.cells #[.int .i64 s, .int .i64 n, .float .f64 x, .int .i64 r] 24)
  have hs1 : (w.alloc (.cells #[.int .i64 s, .int .i64 n, .float .f64 x, .int .i64 r] 24)).heap.size = w.heap.size + 1 := by show (w.heap.push _).size = _; rw [Array.size_push]
  have r2 := heap_alloc_new (w.alloc (.cells #[.int .i64 s, .int .i64 n, .float .f64 x, .int .i64 r] 24)) (.cells #[.int .i64 0, .int .i64 0, .float .f64 0, .int .i64 0] 24)
  have e2 := World.setRow_alloc_new (w.alloc (.cells #[.int .i64 s, .int .i64 n, .float .f64 x, .int .i64 r] 24)) #[.int .i64 0, .int .i64 0, .float .f64 0, .int .i64 0] #[.int .i64 s, .int .i64 n, .float .f64 x, .int .i64 r] 24
  rw [hs1] at r2 e2
  obtain ⟨W1, hW1⟩ : ∃ V0, V0 = (w.alloc (.cells #[.int .i64 s, .int .i64 n, .float .f64 x, .int .i64 r] 24)).alloc (.cells #[.int .i64 s, .int .i64 n, .float .f64 x, .int .i64 r] 24) := ⟨_, rfl⟩
  rw [← hW1] at pa pd pb e2
  have ca := (cell_of_row _ _ 3 _ _ _ pd).trans (show _ = some (Value.int .i64 r) from rfl)
  have fa := frozen_of_row _ _ 3 _ _ pd
  obtain ⟨W2, hW2⟩ : ∃ V0, V0 = W1.setCell ⟨w.heap.size + 1, 3, none⟩ (.int .i64 q) := ⟨_, rfl⟩
  have pb2 : Below w.heap.size w W2 := by rw [hW2]; exact pb.setCell (by show w.heap.size ≤ w.heap.size + 1; omega) _
  have pd2 : W2.heap[w.heap.size + 1]? = some (.cells #[.int .i64 s, .int .i64 n, .float .f64 x, .int .i64 q] 24 (0, 0)) := by rw [hW2, heap_setCell_same _ _ _ _ _ _ pd]; rfl
  have pa2 : W2.heap[w.heap.size]? = some (.cells #[.int .i64 s, .int .i64 n, .float .f64 x, .int .i64 r] 24 (0, 0)) := by rw [hW2, heap_setCell_other _ _ _ _ (by show w.heap.size ≠ w.heap.size + 1; omega)]; exact pa
  have RR2 := Lib.hid r2
  have EE2 := Lib.hid e2
  have HW1 := Lib.hid hW1
  have HW2 := Lib.hid hW2
  have PB2 := Lib.hid pb2
  have RA : Hid (∀ V, Below W2.heap.size W2 V → V.heap[w.heap.size]? = some (.cells #[.int .i64 s, .int .i64 n, .float .f64 x, .int .i64 r] 24 (0, 0))) := Lib.hid (fun V h => (h.block _ (lt_of_row' pa2)).trans pa2)
  have RD : Hid (∀ V, Below W2.heap.size W2 V → V.heap[w.heap.size + 1]? = some (.cells #[.int .i64 s, .int .i64 n, .float .f64 x, .int .i64 q] 24 (0, 0))) := Lib.hid (fun V h => (h.block _ (lt_of_row' pd2)).trans pd2)
  clear hS heS r2 e2 hW1 hW2 pb pb2 pd2 pa2 pa pd hs1 hx
  have hb0 := Below.refl W2.heap.size W2
  by_cases h1 : q < 0
  · have d1 : decide (q < 0) = true := decide_eq_true h1
    obtain ⟨c0, c1, c2, c3⟩ := cells4 (RD.out _ hb0)
    rw [HW2.out] at c0 c1 c2 c3
    go_enter Try.func6, Try.ntmps6
    go_wp2_with (refine wpList_store_row rfl 24 _ _ rfl (w.heap.size + 1) #[.int .i64 s, .int .i64 n, .float .f64 x, .int .i64 r] rfl rfl _ _ RR2.out (by kernel_rfl) rfl (by kernel_rfl) ?_; rw [EE2.out])
    rw [← HW2.out]
    clear c0 c1 c2 c3
    refine (Conf_val s n q eS nS 1 x _ (fun _ => HS.out) (Lib.hid (if_neg (fun h => by unfold okConf at h; omega)).symm)).mono ?_; rintro e w3 ⟨rfl, hb⟩
    have h3 := below_step hb0 hb
    clear hb
    go_wp2_with fail
    refine (fixed_val _).mono ?_; rintro e w4 ⟨rfl, h4⟩
    go_wp2_with fail
    go_ret
    exact ⟨rfl, below_step PB2.out (below_step h3 h4)⟩
  · by_cases h2 : 8 < q
    · have d1 : decide (q < 0) = false := decide_eq_false h1
      have d2 : decide (8 < q) = true := decide_eq_true h2
      obtain ⟨c0, c1, c2, c3⟩ := cells4 (RD.out _ hb0)
      rw [HW2.out] at c0 c1 c2 c3
      go_enter Try.func6, Try.ntmps6
      go_wp2_with (refine wpList_store_row rfl 24 _ _ rfl (w.heap.size + 1) #[.int .i64 s, .int .i64 n, .float .f64 x, .int .i64 r] rfl rfl _ _ RR2.out (by kernel_rfl) rfl (by kernel_rfl) ?_; rw [EE2.out])
      rw [← HW2.out]
      clear c0 c1 c2 c3
      refine (Conf_val s n q eS nS 1 x _ (fun _ => HS.out) (Lib.hid (if_neg (fun h => by unfold okConf at h; omega)).symm)).mono ?_; rintro e w3 ⟨rfl, hb⟩
      have h3 := below_step hb0 hb
      clear hb
      go_wp2_with fail
      refine (fixed_val _).mono ?_; rintro e w4 ⟨rfl, h4⟩
      go_wp2_with fail
      go_ret
      exact ⟨rfl, below_step PB2.out (below_step h3 h4)⟩
    · have d1 : decide (q < 0) = false := decide_eq_false h1
      have d2 : decide (8 < q) = false := decide_eq_false h2
      by_cases hz : okConf s n r ∧ eS = 0
      · have hd : okConf s n q := by have h := hz.1; unfold okConf at h ⊢; omega
        have KC := Lib.hid (fun W => Conf_val s n r eS nS 0 x W (fun _ => HS.out) (Lib.hid (by rw [if_pos hz.1]; exact hz.2.symm)))
        have KD := Lib.hid (fun W => Conf_val s n q eS nS 0 x W (fun _ => HS.out) (Lib.hid (by rw [if_pos hd]; exact hz.2.symm)))
        clear hz hd
        obtain ⟨c0, c1, c2, c3⟩ := cells4 (RA.out _ hb0)
        rw [HW2.out] at c0 c1 c2 c3
        go_enter Try.func6, Try.ntmps6
        go_wp2_with (refine wpList_store_row rfl 24 _ _ rfl (w.heap.size + 1) #[.int .i64 s, .int .i64 n, .float .f64 x, .int .i64 r] rfl rfl _ _ RR2.out (by kernel_rfl) rfl (by kernel_rfl) ?_; rw [EE2.out])
        rw [← HW2.out]
        clear c0 c1 c2 c3
        refine (KC.out _).mono ?_; rintro e w3 ⟨rfl, hb⟩
        have h3 := below_step hb0 hb
        clear hb
        obtain ⟨c0, c1, c2, c3⟩ := cells4 (RD.out _ h3)
        go_wp2_with fail
        clear c0 c1 c2 c3
        refine (KD.out _).mono ?_; rintro e w5 ⟨rfl, hb⟩
        have h5 := below_step h3 hb
        clear hb h3
        go_wp2_with fail
        refine (fixed_val _).mono ?_; rintro e w4 ⟨rfl, h4⟩
        go_wp2_with fail
        go_ret
        exact ⟨rfl, below_step PB2.out (below_step h5 h4)⟩
      · have KC := Lib.hid (fun W => Conf_val s n r eS nS 1 x W (fun _ => HS.out) (Lib.hid (by
          by_cases hk : okConf s n r
          · rw [if_pos hk]
            rcases HES.out with h | h
            · exact absurd ⟨hk, h⟩ hz
            · exact h.symm
          · rw [if_neg hk])))
        clear hz
        obtain ⟨c0, c1, c2, c3⟩ := cells4 (RA.out _ hb0)
        rw [HW2.out] at c0 c1 c2 c3
        go_enter Try.func6, Try.ntmps6
        go_wp2_with (refine wpList_store_row rfl 24 _ _ rfl (w.heap.size + 1) #[.int .i64 s, .int .i64 n, .float .f64 x, .int .i64 r] rfl rfl _ _ RR2.out (by kernel_rfl) rfl (by kernel_rfl) ?_; rw [EE2.out])
        rw [← HW2.out]
        clear c0 c1 c2 c3
        refine (KC.out _).mono ?_; rintro e w3 ⟨rfl, hb⟩
        have h3 := below_step hb0 hb
        clear hb
        go_wp2_with fail
        refine (fixed_val _).mono ?_; rintro e w4 ⟨rfl, h4⟩
        go_wp2_with fail
        go_ret
        exact ⟨rfl, below_step PB2.out (below_step h3 h4)⟩

theorem CheckEach_walk (v0 : Value) (a1 a2 : Int) (w : World) (o0 : Row.Opn Try.prog w 24 v0) (w1 : (Lit.int .u8 a1).wf = true) (w2 : (Lit.int .i64 a2).wf = true) :
    Calls Try.prog 6 #[v0, .int .u8 a1, .int .i64 a2] w fun e w' => e = .returned (.bool true) ∧ Below w.heap.size w w' := by
  obtain ⟨s, n, r, x, rfl, hx⟩ := open_conf o0
  obtain ⟨p, rfl, hp⟩ := u8_wf' _ w1
  have hm : (p : Int).tmod 3 = ((p % 3 : Nat) : Int) := (Int.ofNat_tmod p 3).symm
  have h3 : p % 3 = 0 ∨ p % 3 = 1 ∨ p % 3 = 2 := by omega
  rcases h3 with h | h | h <;> rw [h] at hm
  · exact each_0 s n r a2 x p w hx hp hm
  · exact each_1 s n r a2 x p w hx hp hm
  · exact each_2 s n r a2 x p w hx hp hm
end Go.Proofs.Ytpnehpkecfbneaa.L
