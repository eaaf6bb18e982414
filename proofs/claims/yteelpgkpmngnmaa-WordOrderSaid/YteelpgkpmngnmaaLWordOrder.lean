/- WordOrder: whatever the numbers, the law answers true. No condition. -/
import Derived.Test.YteelpgkpmngnmaaGWord3
import Derived.Test.YteelpgkpmngnmaaGMisc
namespace Go.Proofs.Yteelpgkpmngnmaa.L
open Go.RowKit Go.Proofs.Yteelpgkpmngnmaa.G Go.Proofs.Yteelpgkpmngnmaa.WordPlain
set_option linter.unusedVariables false
set_option linter.unusedSimpArgs false

theorem below_drewN (w : World) (n : Nat) : Below w.heap.size w (w.drewN n) := ⟨rfl, rfl, rfl, Nat.le_refl _, fun _ _ => rfl⟩
theorem div_step (a k : Nat) : a / 256 ^ k = 256 * (a / 256 ^ (k + 1)) + a / 256 ^ k % 256 := by
  rw [Nat.pow_succ, ← Nat.div_div_eq_div_mul]; omega
theorem lt_of_div (a b k : Nat) (h : a / 256 ^ k < b / 256 ^ k) : a < b := by
  rcases Nat.lt_or_ge a b with h1 | h1
  · exact h1
  · exact absurd (Nat.div_le_div_right (c := 256 ^ k) h1) (by omega)

set_option maxRecDepth 100000 in
set_option maxHeartbeats 4000000 in
theorem order_walk (a b : Nat) (w : World) (ha : a < 18446744073709551616) (hb : b < 18446744073709551616) :
    Calls Try.prog 7 #[.int .u64 a, .int .u64 b] w fun e w' => e = .returned (.bool true) ∧ Below w.heap.size w w' := by
  obtain ⟨s, hs⟩ : ∃ s, s = wput a 8 := ⟨_, rfl⟩
  obtain ⟨t, ht⟩ : ∃ s, s = wput b 8 := ⟨_, rfl⟩
  have hss : s.size = 8 := by rw [hs, wput_size]
  have hts : t.size = 8 := by rw [ht, wput_size]
  have p1 := fun W => Put_val a 8 W s ha (Lib.hid (by rw [hs]; rfl))
  have p2 := fun W => Put_val b 8 W t hb (Lib.hid (by rw [ht]; rfl))
  have P1 := Lib.hid p1
  have P2 := Lib.hid p2
  have gs : ∀ j (h : j < s.size), s[j].toNat = a / 256 ^ j % 256 := by
    intro j h
    subst hs
    rw [wput_get, byteAt_nat]
  have gt : ∀ j (h : j < t.size), t[j].toNat = b / 256 ^ j % 256 := by
    intro j h
    subst ht
    rw [wput_get, byteAt_nat]
  have GS := Lib.hid gs
  have GT := Lib.hid gt
  clear p1 p2 gs gt hs ht
  go_enter Try.func7, Try.ntmps7
  go_wp2_with fail
  refine (P1.out _).mono ?_; rintro e w1 ⟨rfl, hb1⟩
  go_wp2_with fail
  refine (P2.out _).mono ?_; rintro e w2 ⟨rfl, hb2⟩
  go_wp2_with fail
  go_loopw [7] (fun c wr => ∃ k : Nat, k ≤ 8 ∧ c = .int .i64 ((k : Int) - 1) ∧ a / 256 ^ k = b / 256 ^ k ∧ Below w.heap.size w wr) (fun c _ => (intOf c + 1).toNat)
  case atStart => exact ⟨8, by omega, rfl, by rw [Nat.div_eq_of_lt (by simpa using ha), Nat.div_eq_of_lt (by simpa using hb)], below_step hb1 hb2⟩
  case round =>
    obtain ⟨k, hk, rfl, he, hbel⟩ := hrel
    have HE := Lib.hid he
    clear he
    by_cases h0 : 0 < k
    · obtain ⟨j, rfl⟩ : ∃ j, k = j + 1 := ⟨k - 1, by omega⟩
      have hjs : j < s.size := by omega
      have hjt : j < t.size := by omega
      have hj8 : (j : Int) < 8 := by omega
      have d1 := div_step a j
      have d2 := div_step b j
      rw [HE.out] at d1
      have e1 := GS.out j hjs
      have e2 := GT.out j hjt
      by_cases h : s[j].toNat = t[j].toNat
      · have q1 : ((s[j].toNat : Int) == (t[j].toNat : Int)) = true := beq_iff_eq.2 (by omega)
        have q2 : ((s[j].toNat : Int) != (t[j].toNat : Int)) = false := by rw [bne, q1]; rfl
        have hn : a / 256 ^ j = b / 256 ^ j := by omega
        have HN := Lib.hid hn
        clear d1 d2 e1 e2 h hn
        go_wp2_with fail
        go_quiet (fail)
        go_wp2_with fail
        go_roundw
        case rel => exact ⟨j, by omega, by go_num, HN.out, below_step hbel (below_drewN _ _)⟩
        case measure => simp [intOf]
      · have q1 : ((s[j].toNat : Int) == (t[j].toNat : Int)) = false := beq_eq_false_iff_ne.2 (by omega)
        have q2 : ((s[j].toNat : Int) != (t[j].toNat : Int)) = true := by rw [bne, q1]; rfl
        have hlt : (s[j].toNat < t[j].toNat ∧ a < b) ∨ (¬ s[j].toNat < t[j].toNat ∧ b < a) := by
          rcases Nat.lt_or_ge s[j].toNat t[j].toNat with h1 | h1
          · exact Or.inl ⟨h1, lt_of_div a b j (by omega)⟩
          · exact Or.inr ⟨by omega, lt_of_div b a j (by omega)⟩
        have hab : ((a : Int) == (b : Int)) = false := beq_eq_false_iff_ne.2 (by omega)
        have hab2 : ((a : Int) != (b : Int)) = true := by rw [bne, hab]; rfl
        have g1 : decide ((s[j].toNat : Int) < (t[j].toNat : Int)) = decide ((a : Int) < (b : Int)) := by
          apply decide_eq_decide.2
          omega
        rcases hlt with ⟨h1, h2⟩ | ⟨h1, h2⟩
        all_goals
          have g2 : (s[j].toNat : Int) < (t[j].toNat : Int) ∨ ¬ (s[j].toNat : Int) < (t[j].toNat : Int) := by omega
          have z1 : ((s[j].toNat : Int) < (t[j].toNat : Int)) = ((a : Int) < (b : Int)) := propext (by omega)
          have z2 : ((a : Int) < (b : Int)) = True ∨ ((a : Int) < (b : Int)) = False := by
            by_cases q : (a : Int) < (b : Int)
            · exact Or.inl (eq_true q)
            · exact Or.inr (eq_false q)
          clear d1 d2 e1 e2 h h1 h2 g1 g2
          rcases z2 with z2 | z2
          all_goals
            rw [z2] at z1
            go_wp2_with fail
            go_quiet (fail)
            go_wp2_with fail
            refine wp_region_quiet_below (by kernel_rfl) (by kernel_rfl) ?_
            repeat (quiet_step (fail))
            quiet_step ((go_at_call 20; exact Calls.regrown_of (fixed_val _)))
            repeat (quiet_step (fail))
            refine wpQuiet_nil ?_
            intro _ hw'
            obtain ⟨⟨dq, osq⟩, hw''⟩ := hw'
            subst hw''
            go_wp2_with fail
            go_ret
            exact ⟨rfl, below_step (below_step hbel (below_drewN _ _)) (below_regrown _ dq osq)⟩
    · obtain rfl : k = 0 := by omega
      have hab : a = b := by have := HE.out; simpa using this
      subst hab
      go_wp2_with fail
      refine (fixed_val _).mono ?_; rintro e w3 ⟨rfl, hb3⟩
      go_wp2_with fail
      go_ret
      exact ⟨rfl, below_step hbel hb3⟩

theorem WordOrder_walk (a0 a1 : Int) (w : World) (w0 : (Lit.int .u64 a0).wf = true) (w1 : (Lit.int .u64 a1).wf = true) :
    Calls Try.prog 7 #[.int .u64 a0, .int .u64 a1] w fun e w' => e = .returned (.bool true) ∧ Below w.heap.size w w' := by
  obtain ⟨a, rfl, ha⟩ := u64_wf a0 w0
  obtain ⟨b, rfl, hb⟩ := u64_wf a1 w1
  exact order_walk a b w ha hb
end Go.Proofs.Yteelpgkpmngnmaa.L
