/- TtlLater: whatever the numbers, the law answers true. No condition. -/
import Derived.Test.YtgnmhepneahhdaaTk
namespace Go.Proofs.Ytgnmhepneahhdaa.L
open Go.RowKit Go.Proofs.Ytgnmhepneahhdaa.G Go.Proofs.Ytgnmhepneahhdaa.WordPlain
set_option linter.unusedVariables false
set_option linter.unusedSimpArgs false

theorem addV_lt (a b : Nat) (ha : a < 18446744073709551616) (hb : b < 18446744073709551616) : addV a b < 18446744073709551616 := by unfold addV; split <;> omega
theorem addV_comm (a b : Nat) : addV a b = addV b a := by unfold addV; rw [Nat.add_comm a b]
theorem addV_swap (n a b : Nat) (hn : n < 18446744073709551616) (ha : a < 18446744073709551616) (hb : b < 18446744073709551616) : addV (addV n a) b = addV (addV n b) a := by unfold addV; split <;> split <;> split <;> split <;> omega
theorem addV_ge (a b : Nat) (ha : a < 18446744073709551616) (hb : b < 18446744073709551616) : a ≤ addV a b ∧ b ≤ addV a b := by unfold addV; split <;> omega

set_option maxRecDepth 100000 in
set_option maxHeartbeats 1000000 in
theorem later_main (n a b : Nat) (w : World) (hn : n < 18446744073709551616) (ha : a < 18446744073709551616) (hb : b < 18446744073709551616) :
    Calls Try.prog 7 #[.int .u64 n, .int .u64 a, .int .u64 b] w fun e w' => e = .returned (.bool true) ∧ Below w.heap.size w w' := by
  obtain ⟨p, hp⟩ : ∃ z, z = addV n a := ⟨_, rfl⟩
  obtain ⟨q, hq⟩ : ∃ z, z = addV n b := ⟨_, rfl⟩
  obtain ⟨x, hx⟩ : ∃ z, z = addV p b := ⟨_, rfl⟩
  have hpl : p < 18446744073709551616 := by rw [hp]; exact addV_lt _ _ hn ha
  have hql : q < 18446744073709551616 := by rw [hq]; exact addV_lt _ _ hn hb
  have hx2 : x = addV q a := by rw [hx, hp, hq]; exact addV_swap n a b hn ha hb
  have g1 := addV_ge n a hn ha
  have g2 := addV_ge p b hpl hb
  rw [← hp] at g1
  rw [← hx] at g2
  have f1 : (n : Int) ≤ (x : Int) := by omega
  have f2 : (a : Int) ≤ (x : Int) := by omega
  have f3 : (b : Int) ≤ (x : Int) := by omega
  have l1 := Lib.hid (fun W => Later_val n a p W hn ha (Lib.hid hp))
  have l2 := Lib.hid (fun W => Later_val p b x W hpl hb (Lib.hid hx))
  have l3 := Lib.hid (fun W => Later_val n b q W hn hb (Lib.hid hq))
  have l4 := Lib.hid (fun W => Later_val q a x W hql ha (Lib.hid hx2))
  have l5 := Lib.hid (fun W => Later_val a n p W ha hn (Lib.hid (hp.trans (addV_comm n a))))
  have l6 := Lib.hid (fun W => Later_val n 0 n W hn (by omega) (Lib.hid (by unfold addV; rw [if_neg (by omega)]; rfl)))
  have l7 := Lib.hid (fun W => Later_val 18446744073709551615 a 18446744073709551615 W (by omega) ha (Lib.hid (by unfold addV; split <;> omega)))
  have MX := Lib.hid (fun W => Max_val W)
  clear hp hq hx hx2 g1 g2 hpl hql hn ha hb
  go_enter Try.func7, Try.ntmps7
  go_wp2_with fail
  refine (l1.out _).mono ?_; rintro e w1 ⟨rfl, rfl⟩
  go_wp2_with fail
  refine (l2.out _).mono ?_; rintro e w1 ⟨rfl, rfl⟩
  go_wp2_with fail
  refine (l3.out _).mono ?_; rintro e w1 ⟨rfl, rfl⟩
  go_wp2_with fail
  refine (l4.out _).mono ?_; rintro e w1 ⟨rfl, rfl⟩
  go_wp2_with fail
  refine (l1.out _).mono ?_; rintro e w1 ⟨rfl, rfl⟩
  go_wp2_with fail
  refine (l5.out _).mono ?_; rintro e w1 ⟨rfl, rfl⟩
  go_wp2_with fail
  refine (l6.out _).mono ?_; rintro e w1 ⟨rfl, rfl⟩
  go_wp2_with fail
  refine (MX.out _).mono ?_; rintro e w1 ⟨rfl, rfl⟩
  go_wp2_with fail
  refine (l7.out _).mono ?_; rintro e w1 ⟨rfl, rfl⟩
  go_wp2_with fail
  refine (MX.out _).mono ?_; rintro e w1 ⟨rfl, rfl⟩
  go_wp2_with fail
  refine (fixed_val _).mono ?_; rintro e w1 ⟨rfl, rfl⟩
  go_wp2_with fail
  go_ret
  exact ⟨rfl, Below.refl _ _⟩

theorem TtlLater_walk (a0 a1 a2 : Int) (w : World) (w0 : (Lit.int .u64 a0).wf = true) (w1 : (Lit.int .u64 a1).wf = true) (w2 : (Lit.int .u64 a2).wf = true) :
    Calls Try.prog 7 #[.int .u64 a0, .int .u64 a1, .int .u64 a2] w fun e w' => e = .returned (.bool true) ∧ Below w.heap.size w w' := by
  obtain ⟨n, rfl, hn⟩ := u64_wf _ w0
  obtain ⟨a, rfl, ha⟩ := u64_wf _ w1
  obtain ⟨b, rfl, hb⟩ := u64_wf _ w2
  exact later_main n a b w hn ha hb
end Go.Proofs.Ytgnmhepneahhdaa.L
