/- The document's Right. -/
import Derived.Test.YtjkiofgllmjkcaaT1
import Derived.Test.YtjkiofgllmjkcaaGLoose
namespace Go.Proofs.Ytjkiofgllmjkcaa.G
open Go.RowKit Go.Proofs.Ytjkiofgllmjkcaa.WordPlain Go.Proofs.Ytjkiofgllmjkcaa.Loose
set_option linter.unusedVariables false
set_option linter.unusedSimpArgs false

theorem rRight_val (a : Ac) (oa : Option Addr) (cap : Nat) (w : World) :
    Calls Try.prog 17 #[.agg (a.row (.slice oa a.keep.length cap))] w fun e w' => e = .returned (.bool (decide a.Right)) ∧ Below w.heap.size w w' := by
  have hR : a.Right ↔ (a = a.only ∧ a.fits) := Iff.rfl
  rw [Ac.only_iff a] at hR
  obtain ⟨k, rk, i, v, t, p, n, l, to, pl⟩ := a
  have hl : (l = []) = (l.length = 0) := propext List.length_eq_zero_iff.symm
  unfold Ac.fits at hR
  simp only [hl] at hR
  obtain ⟨r, hr⟩ : ∃ r, r = decide (Ac.Right ⟨k, rk, i, v, t, p, n, l, to, pl⟩) := ⟨_, rfl⟩
  rw [← hr]
  obtain ⟨m, hm⟩ : ∃ m, m = l.length := ⟨_, rfl⟩
  unfold Ac.row
  simp only
  rw [← hm] at hR ⊢
  by_cases k0 : k = 0
  · subst k0
    simp only [show ((0 : Int) = 0) = True from eq_true rfl, show ((0 : Int) = 1) = False from eq_false (by decide), show ((0 : Int) = 2) = False from eq_false (by decide), show ((0 : Int) = 3) = False from eq_false (by decide), show ((0 : Int) = 4) = False from eq_false (by decide), show ((0 : Int) = 5) = False from eq_false (by decide), if_true, if_false, or_true, true_or, or_false, false_or, or_self, and_true] at hR
    by_cases hw : m = 0 ∧ to = 0 ∧ pl = 0
    · have H0 : Hid (∀ W, Calls Try.prog 35 #[.agg #[.int .i64 0, .int .i64 rk, .string i, .string v, .float .f64 t, .int .i64 p, .int .u64 (n : Int), .slice oa m cap, .int .i64 to, .int .i64 pl]] W fun e w' => e = .returned (.bool true) ∧ Below W.heap.size W w') := Lib.hid (fun W => by have := rwhole_val W 0 rk p to pl i v t n m cap oa; rwa [decide_eq_true hw] at this)
      rw [show r = decide (n = 0 ∧ 0 ≤ rk ∧ rk ≤ 255 ∧ i.size ≤ 255 ∧ v.size ≤ 255 ∧ 0 ≤ p ∧ p ≤ 255) from hr.trans (decide_eq_decide.2 (hR.trans ⟨fun h => ⟨h.1.2.2.2, h.2.1.1, h.2.1.2, h.2.2.1, h.2.2.2.1, h.2.2.2.2⟩, fun h => ⟨⟨hw.1, hw.2.1, hw.2.2, h.1⟩, ⟨h.2.1, h.2.2.1⟩, h.2.2.2.1, h.2.2.2.2.1, h.2.2.2.2.2⟩⟩))]
      exact rR0_val w rk p to pl i v t n m cap oa H0
    · have H0 : Hid (∀ W, Calls Try.prog 35 #[.agg #[.int .i64 0, .int .i64 rk, .string i, .string v, .float .f64 t, .int .i64 p, .int .u64 (n : Int), .slice oa m cap, .int .i64 to, .int .i64 pl]] W fun e w' => e = .returned (.bool false) ∧ Below W.heap.size W w') := Lib.hid (fun W => by have := rwhole_val W 0 rk p to pl i v t n m cap oa; rwa [decide_eq_false hw] at this)
      rw [show r = false from hr.trans (decide_eq_false (fun h => hw ⟨(hR.1 h).1.1, (hR.1 h).1.2.1, (hR.1 h).1.2.2.1⟩))]
      exact rR0_w w rk p to pl i v t n m cap oa H0
  by_cases k1 : k = 1
  · subst k1
    simp only [show ((1 : Int) = 0) = False from eq_false (by decide), show ((1 : Int) = 1) = True from eq_true rfl, show ((1 : Int) = 2) = False from eq_false (by decide), show ((1 : Int) = 3) = False from eq_false (by decide), show ((1 : Int) = 4) = False from eq_false (by decide), show ((1 : Int) = 5) = False from eq_false (by decide), if_true, if_false, or_true, true_or, or_false, false_or, or_self, and_true] at hR
    by_cases hp : rk = 0 ∧ i = ⟨#[]⟩ ∧ v = ⟨#[]⟩ ∧ t = 0 ∧ p = 0
    rotate_left
    · have H0 : Hid (∀ W, Calls Try.prog 36 #[.agg #[.int .i64 1, .int .i64 rk, .string i, .string v, .float .f64 t, .int .i64 p, .int .u64 (n : Int), .slice oa m cap, .int .i64 to, .int .i64 pl]] W fun e w' => e = .returned (.bool false) ∧ Below W.heap.size W w') := Lib.hid (fun W => by have := rplain_val W 1 rk p to pl i v t n m cap oa; rwa [decide_eq_false hp] at this)
      rw [show r = false from hr.trans (decide_eq_false (fun h => hp (hR.1 h).1))]
      exact rR1_p w rk p to pl i v t n m cap oa H0
    have H0 : Hid (∀ W, Calls Try.prog 36 #[.agg #[.int .i64 1, .int .i64 rk, .string i, .string v, .float .f64 t, .int .i64 p, .int .u64 (n : Int), .slice oa m cap, .int .i64 to, .int .i64 pl]] W fun e w' => e = .returned (.bool true) ∧ Below W.heap.size W w') := Lib.hid (fun W => by have := rplain_val W 1 rk p to pl i v t n m cap oa; rwa [decide_eq_true hp] at this)
    by_cases hw : m = 0 ∧ to = 0 ∧ pl = 0
    rotate_left
    · have H1 : Hid (∀ W, Calls Try.prog 35 #[.agg #[.int .i64 1, .int .i64 rk, .string i, .string v, .float .f64 t, .int .i64 p, .int .u64 (n : Int), .slice oa m cap, .int .i64 to, .int .i64 pl]] W fun e w' => e = .returned (.bool false) ∧ Below W.heap.size W w') := Lib.hid (fun W => by have := rwhole_val W 1 rk p to pl i v t n m cap oa; rwa [decide_eq_false hw] at this)
      rw [show r = false from hr.trans (decide_eq_false (fun h => hw (hR.1 h).2))]
      exact rR1_w w rk p to pl i v t n m cap oa H0 H1
    have H1 : Hid (∀ W, Calls Try.prog 35 #[.agg #[.int .i64 1, .int .i64 rk, .string i, .string v, .float .f64 t, .int .i64 p, .int .u64 (n : Int), .slice oa m cap, .int .i64 to, .int .i64 pl]] W fun e w' => e = .returned (.bool true) ∧ Below W.heap.size W w') := Lib.hid (fun W => by have := rwhole_val W 1 rk p to pl i v t n m cap oa; rwa [decide_eq_true hw] at this)
    rw [show r = decide (True) from hr.trans (decide_eq_decide.2 (hR.trans ⟨fun _ => trivial, fun _ => ⟨hp, hw⟩⟩))]
    exact rR1_val w rk p to pl i v t n m cap oa H0 H1
  by_cases k2 : k = 2
  · subst k2
    simp only [show ((2 : Int) = 0) = False from eq_false (by decide), show ((2 : Int) = 1) = False from eq_false (by decide), show ((2 : Int) = 2) = True from eq_true rfl, show ((2 : Int) = 3) = False from eq_false (by decide), show ((2 : Int) = 4) = False from eq_false (by decide), show ((2 : Int) = 5) = False from eq_false (by decide), if_true, if_false, or_true, true_or, or_false, false_or, or_self, and_true] at hR
    by_cases hp : rk = 0 ∧ i = ⟨#[]⟩ ∧ v = ⟨#[]⟩ ∧ t = 0 ∧ p = 0
    rotate_left
    · have H0 : Hid (∀ W, Calls Try.prog 36 #[.agg #[.int .i64 2, .int .i64 rk, .string i, .string v, .float .f64 t, .int .i64 p, .int .u64 (n : Int), .slice oa m cap, .int .i64 to, .int .i64 pl]] W fun e w' => e = .returned (.bool false) ∧ Below W.heap.size W w') := Lib.hid (fun W => by have := rplain_val W 2 rk p to pl i v t n m cap oa; rwa [decide_eq_false hp] at this)
      rw [show r = false from hr.trans (decide_eq_false (fun h => hp (hR.1 h).1.1))]
      exact rR2_p w rk p to pl i v t n m cap oa H0
    have H0 : Hid (∀ W, Calls Try.prog 36 #[.agg #[.int .i64 2, .int .i64 rk, .string i, .string v, .float .f64 t, .int .i64 p, .int .u64 (n : Int), .slice oa m cap, .int .i64 to, .int .i64 pl]] W fun e w' => e = .returned (.bool true) ∧ Below W.heap.size W w') := Lib.hid (fun W => by have := rplain_val W 2 rk p to pl i v t n m cap oa; rwa [decide_eq_true hp] at this)
    by_cases hw : m = 0 ∧ to = 0 ∧ pl = 0
    rotate_left
    · have H1 : Hid (∀ W, Calls Try.prog 35 #[.agg #[.int .i64 2, .int .i64 rk, .string i, .string v, .float .f64 t, .int .i64 p, .int .u64 (n : Int), .slice oa m cap, .int .i64 to, .int .i64 pl]] W fun e w' => e = .returned (.bool false) ∧ Below W.heap.size W w') := Lib.hid (fun W => by have := rwhole_val W 2 rk p to pl i v t n m cap oa; rwa [decide_eq_false hw] at this)
      rw [show r = false from hr.trans (decide_eq_false (fun h => hw (hR.1 h).1.2))]
      exact rR2_w w rk p to pl i v t n m cap oa H0 H1
    have H1 : Hid (∀ W, Calls Try.prog 35 #[.agg #[.int .i64 2, .int .i64 rk, .string i, .string v, .float .f64 t, .int .i64 p, .int .u64 (n : Int), .slice oa m cap, .int .i64 to, .int .i64 pl]] W fun e w' => e = .returned (.bool true) ∧ Below W.heap.size W w') := Lib.hid (fun W => by have := rwhole_val W 2 rk p to pl i v t n m cap oa; rwa [decide_eq_true hw] at this)
    rw [show r = decide (n ≤ 255) from hr.trans (decide_eq_decide.2 (hR.trans ⟨fun h => h.2, fun h => ⟨⟨hp, hw⟩, h⟩⟩))]
    exact rR2_val w rk p to pl i v t n m cap oa H0 H1
  by_cases k3 : k = 3
  · subst k3
    simp only [show ((3 : Int) = 0) = False from eq_false (by decide), show ((3 : Int) = 1) = False from eq_false (by decide), show ((3 : Int) = 2) = False from eq_false (by decide), show ((3 : Int) = 3) = True from eq_true rfl, show ((3 : Int) = 4) = False from eq_false (by decide), show ((3 : Int) = 5) = False from eq_false (by decide), if_true, if_false, or_true, true_or, or_false, false_or, or_self, and_true] at hR
    by_cases hp : rk = 0 ∧ i = ⟨#[]⟩ ∧ v = ⟨#[]⟩ ∧ t = 0 ∧ p = 0
    rotate_left
    · have H0 : Hid (∀ W, Calls Try.prog 36 #[.agg #[.int .i64 3, .int .i64 rk, .string i, .string v, .float .f64 t, .int .i64 p, .int .u64 (n : Int), .slice oa m cap, .int .i64 to, .int .i64 pl]] W fun e w' => e = .returned (.bool false) ∧ Below W.heap.size W w') := Lib.hid (fun W => by have := rplain_val W 3 rk p to pl i v t n m cap oa; rwa [decide_eq_false hp] at this)
      rw [show r = false from hr.trans (decide_eq_false (fun h => hp (hR.1 h).1))]
      exact rR3_p w rk p to pl i v t n m cap oa H0
    have H0 : Hid (∀ W, Calls Try.prog 36 #[.agg #[.int .i64 3, .int .i64 rk, .string i, .string v, .float .f64 t, .int .i64 p, .int .u64 (n : Int), .slice oa m cap, .int .i64 to, .int .i64 pl]] W fun e w' => e = .returned (.bool true) ∧ Below W.heap.size W w') := Lib.hid (fun W => by have := rplain_val W 3 rk p to pl i v t n m cap oa; rwa [decide_eq_true hp] at this)
    by_cases hw : m = 0 ∧ to = 0 ∧ pl = 0
    rotate_left
    · have H1 : Hid (∀ W, Calls Try.prog 35 #[.agg #[.int .i64 3, .int .i64 rk, .string i, .string v, .float .f64 t, .int .i64 p, .int .u64 (n : Int), .slice oa m cap, .int .i64 to, .int .i64 pl]] W fun e w' => e = .returned (.bool false) ∧ Below W.heap.size W w') := Lib.hid (fun W => by have := rwhole_val W 3 rk p to pl i v t n m cap oa; rwa [decide_eq_false hw] at this)
      rw [show r = false from hr.trans (decide_eq_false (fun h => hw (hR.1 h).2.1))]
      exact rR3_w w rk p to pl i v t n m cap oa H0 H1
    have H1 : Hid (∀ W, Calls Try.prog 35 #[.agg #[.int .i64 3, .int .i64 rk, .string i, .string v, .float .f64 t, .int .i64 p, .int .u64 (n : Int), .slice oa m cap, .int .i64 to, .int .i64 pl]] W fun e w' => e = .returned (.bool true) ∧ Below W.heap.size W w') := Lib.hid (fun W => by have := rwhole_val W 3 rk p to pl i v t n m cap oa; rwa [decide_eq_true hw] at this)
    rw [show r = decide (n = 0) from hr.trans (decide_eq_decide.2 (hR.trans ⟨fun h => h.2.2, fun h => ⟨hp, hw, h⟩⟩))]
    exact rR3_val w rk p to pl i v t n m cap oa H0 H1
  by_cases k4 : k = 4
  · subst k4
    simp only [show ((4 : Int) = 0) = False from eq_false (by decide), show ((4 : Int) = 1) = False from eq_false (by decide), show ((4 : Int) = 2) = False from eq_false (by decide), show ((4 : Int) = 3) = False from eq_false (by decide), show ((4 : Int) = 4) = True from eq_true rfl, show ((4 : Int) = 5) = False from eq_false (by decide), if_true, if_false, or_true, true_or, or_false, false_or, or_self, and_true] at hR
    by_cases hp : rk = 0 ∧ i = ⟨#[]⟩ ∧ v = ⟨#[]⟩ ∧ t = 0 ∧ p = 0
    rotate_left
    · have H0 : Hid (∀ W, Calls Try.prog 36 #[.agg #[.int .i64 4, .int .i64 rk, .string i, .string v, .float .f64 t, .int .i64 p, .int .u64 (n : Int), .slice oa m cap, .int .i64 to, .int .i64 pl]] W fun e w' => e = .returned (.bool false) ∧ Below W.heap.size W w') := Lib.hid (fun W => by have := rplain_val W 4 rk p to pl i v t n m cap oa; rwa [decide_eq_false hp] at this)
      rw [show r = false from hr.trans (decide_eq_false (fun h => hp (hR.1 h).1.1))]
      exact rR4_p w rk p to pl i v t n m cap oa H0
    have H0 : Hid (∀ W, Calls Try.prog 36 #[.agg #[.int .i64 4, .int .i64 rk, .string i, .string v, .float .f64 t, .int .i64 p, .int .u64 (n : Int), .slice oa m cap, .int .i64 to, .int .i64 pl]] W fun e w' => e = .returned (.bool true) ∧ Below W.heap.size W w') := Lib.hid (fun W => by have := rplain_val W 4 rk p to pl i v t n m cap oa; rwa [decide_eq_true hp] at this)
    by_cases hw : m = 0 ∧ to = 0 ∧ pl = 0
    rotate_left
    · have H1 : Hid (∀ W, Calls Try.prog 35 #[.agg #[.int .i64 4, .int .i64 rk, .string i, .string v, .float .f64 t, .int .i64 p, .int .u64 (n : Int), .slice oa m cap, .int .i64 to, .int .i64 pl]] W fun e w' => e = .returned (.bool false) ∧ Below W.heap.size W w') := Lib.hid (fun W => by have := rwhole_val W 4 rk p to pl i v t n m cap oa; rwa [decide_eq_false hw] at this)
      rw [show r = false from hr.trans (decide_eq_false (fun h => hw (hR.1 h).1.2))]
      exact rR4_w w rk p to pl i v t n m cap oa H0 H1
    have H1 : Hid (∀ W, Calls Try.prog 35 #[.agg #[.int .i64 4, .int .i64 rk, .string i, .string v, .float .f64 t, .int .i64 p, .int .u64 (n : Int), .slice oa m cap, .int .i64 to, .int .i64 pl]] W fun e w' => e = .returned (.bool true) ∧ Below W.heap.size W w') := Lib.hid (fun W => by have := rwhole_val W 4 rk p to pl i v t n m cap oa; rwa [decide_eq_true hw] at this)
    rw [show r = decide (n ≤ 65535) from hr.trans (decide_eq_decide.2 (hR.trans ⟨fun h => h.2, fun h => ⟨⟨hp, hw⟩, h⟩⟩))]
    exact rR4_val w rk p to pl i v t n m cap oa H0 H1
  by_cases k5 : k = 5
  · subst k5
    simp only [show ((5 : Int) = 0) = False from eq_false (by decide), show ((5 : Int) = 1) = False from eq_false (by decide), show ((5 : Int) = 2) = False from eq_false (by decide), show ((5 : Int) = 3) = False from eq_false (by decide), show ((5 : Int) = 4) = False from eq_false (by decide), show ((5 : Int) = 5) = True from eq_true rfl, if_true, if_false, or_true, true_or, or_false, false_or, or_self, and_true] at hR
    by_cases hp : rk = 0 ∧ i = ⟨#[]⟩ ∧ v = ⟨#[]⟩ ∧ t = 0 ∧ p = 0
    rotate_left
    · have H0 : Hid (∀ W, Calls Try.prog 36 #[.agg #[.int .i64 5, .int .i64 rk, .string i, .string v, .float .f64 t, .int .i64 p, .int .u64 (n : Int), .slice oa m cap, .int .i64 to, .int .i64 pl]] W fun e w' => e = .returned (.bool false) ∧ Below W.heap.size W w') := Lib.hid (fun W => by have := rplain_val W 5 rk p to pl i v t n m cap oa; rwa [decide_eq_false hp] at this)
      rw [show r = false from hr.trans (decide_eq_false (fun h => hp (hR.1 h).1))]
      exact rR5_p w rk p to pl i v t n m cap oa H0
    have H0 : Hid (∀ W, Calls Try.prog 36 #[.agg #[.int .i64 5, .int .i64 rk, .string i, .string v, .float .f64 t, .int .i64 p, .int .u64 (n : Int), .slice oa m cap, .int .i64 to, .int .i64 pl]] W fun e w' => e = .returned (.bool true) ∧ Below W.heap.size W w') := Lib.hid (fun W => by have := rplain_val W 5 rk p to pl i v t n m cap oa; rwa [decide_eq_true hp] at this)
    rw [show r = decide (m ≤ 255 ∧ 0 ≤ to ∧ to ≤ 65535 ∧ 0 ≤ pl ∧ pl ≤ 128) from hr.trans (decide_eq_decide.2 (hR.trans ⟨fun h => ⟨h.2.1, h.2.2.1.1, h.2.2.1.2, h.2.2.2⟩, fun h => ⟨hp, h.1, ⟨h.2.1, h.2.2.1⟩, h.2.2.2⟩⟩))]
    exact rR5_val w rk p to pl i v t n m cap oa H0
  have hf : ¬ Ac.Right ⟨k, rk, i, v, t, p, n, l, to, pl⟩ := fun h => by
    have := (hR.1 h).2
    simp only [k0, k1, k2, k3, k4, k5, if_false, or_self] at this
  rw [show r = false from hr.trans (decide_eq_false hf)]
  exact rRx w k rk p to pl i v t n m cap oa (beq_eq_false_iff_ne.2 k0) (beq_eq_false_iff_ne.2 k1) (beq_eq_false_iff_ne.2 k2) (beq_eq_false_iff_ne.2 k3) (beq_eq_false_iff_ne.2 k4) (beq_eq_false_iff_ne.2 k5)
end Go.Proofs.Ytjkiofgllmjkcaa.G
