/- ScriptBits: whatever the bits, the law answers true. No condition. -/
import Derived.Test.YtjkiofgllmjkcaaLBitsP
import Derived.Test.YtjkiofgllmjkcaaGFast
import Derived.BigQuiet
namespace Go.Proofs.Ytjkiofgllmjkcaa.L
open Go.RowKit Go.Proofs.Ytjkiofgllmjkcaa.G Go.Proofs.Ytjkiofgllmjkcaa.WordPlain
set_option linter.unusedVariables false
set_option linter.unusedSimpArgs false

theorem three_newL (w : World) (o1 o2 o3 : Obj) : ∀ W, W = ((w.alloc o1).alloc o2).alloc o3 → W.heap[w.heap.size]? = some o1 ∧ W.heap[w.heap.size + 1]? = some o2 ∧ W.heap[w.heap.size + 2]? = some o3 ∧ Below w.heap.size w W := by
  intro W hW
  have s1 : (w.alloc o1).heap.size = w.heap.size + 1 := alloc_size w o1
  have s2 : ((w.alloc o1).alloc o2).heap.size = w.heap.size + 2 := by rw [alloc_size, s1]
  have n1 := heap_alloc_new w o1
  have n2 := heap_alloc_new (w.alloc o1) o2
  have n3 := heap_alloc_new ((w.alloc o1).alloc o2) o3
  rw [s1] at n2
  rw [s2, ← hW] at n3
  have b1 : Below w.heap.size w (w.alloc o1) := (Below.refl _ _).alloc (Nat.le_refl _) _
  have b2 := b1.alloc b1.size o2
  refine ⟨?_, ?_, n3, by rw [hW]; exact b2.alloc b2.size _⟩
  · rw [hW, heap_alloc_old _ _ (by rw [s2]; omega), heap_alloc_old _ _ (by rw [s1]; omega)]; exact n1
  · rw [hW, heap_alloc_old _ _ (by rw [s2]; omega)]; exact n2
theorem two_in (W : World) (B : Nat) (x y : Nat) (hB : W.heap[B]? = some (.cells #[.int .i64 0, .int .i64 0, .string ⟨#[]⟩, .string ⟨#[]⟩, .float .f64 x, .int .i64 0, .int .u64 0, .slice none 0 0, .int .i64 0, .int .i64 0, .int .i64 0, .int .i64 0, .string ⟨#[]⟩, .string ⟨#[]⟩, .float .f64 y, .int .i64 0, .int .u64 0, .slice none 0 0, .int .i64 0, .int .i64 0] 29 (0, 0))) : SA W (.slice (some ⟨B, 0, none⟩) 2 2) [bx x, bx y] := by
  refine SA.of_rows (base := 0) (ty := 29) (acc := [bx x, bx y]) (vks := [.slice none 0 0, .slice none 0 0]) ⟨rfl, Or.inr ⟨B, 2, _, rfl, Nat.zero_le _, hB, Nat.le_refl _, by decide, rfl, rfl⟩⟩ rfl ?_
  intro i h h'
  match i, h, h' with
  | 0, _, _ => exact Sb.nil W
  | 1, _, _ => exact Sb.nil W

set_option maxRecDepth 100000 in
set_option maxHeartbeats 8000000 in
theorem bits_main (x y : Nat) (z : Bool) (w : World) (hx : x < 18446744073709551616) (hy : y < 18446744073709551616) (hz : Hid (z = decide (bx x = bx y))) (hxy : ((x : Int) == (y : Int)) = z) :
    Calls Try.prog 6 #[.int .u64 (x : Nat), .int .u64 (y : Nat)] w fun e w' => e = .returned (.bool true) ∧ Below w.heap.size w w' := by
  have fx := fromS x
  have fy := fromS y
  have gx := bitsS x
  have gy := bitsS y
  have sfl := store_floatS
  have hk : ∀ a ∈ [bx x, bx y], a.Kind := by
    intro a ha
    simp only [List.mem_cons, List.not_mem_nil, or_false] at ha
    rcases ha with rfl | rfl
    · exact bx_kind x hx
    · exact bx_kind y hy
  obtain ⟨W3, hW3⟩ : ∃ W, W = ((w.alloc (.cells #[.int .i64 0, .int .i64 0, .string ⟨#[]⟩, .string ⟨#[]⟩, .float .f64 x, .int .i64 0, .int .u64 0, .slice none 0 0, .int .i64 0, .int .i64 0] 29)).alloc (.cells #[.int .i64 0, .int .i64 0, .string ⟨#[]⟩, .string ⟨#[]⟩, .float .f64 y, .int .i64 0, .int .u64 0, .slice none 0 0, .int .i64 0, .int .i64 0] 29)).alloc (.cells #[.int .i64 0, .int .i64 0, .string ⟨#[]⟩, .string ⟨#[]⟩, .float .f64 x, .int .i64 0, .int .u64 0, .slice none 0 0, .int .i64 0, .int .i64 0, .int .i64 0, .int .i64 0, .string ⟨#[]⟩, .string ⟨#[]⟩, .float .f64 y, .int .i64 0, .int .u64 0, .slice none 0 0, .int .i64 0, .int .i64 0] 29) := ⟨_, rfl⟩
  obtain ⟨n1, n2, n3, nb⟩ := three_newL w _ _ _ W3 hW3
  have en := Encode_val [bx x, bx y] _ W3 (show 2 ≤ 140737488351232 by omega) hk (two_in W3 _ x y n3)
  rw [(bits_enc x y).2] at en
  obtain ⟨s, hs⟩ : ∃ s, s = encV [bx x, bx y] := ⟨_, rfl⟩
  have dl := bits_list x y
  have dd := bits_dec x y hx hy
  rw [← hs] at en dl dd
  have hsl : s.data.toList.length ≤ 1000000 := by rw [dl, List.length_append, bits_len, bits_len]; decide
  have EN := Lib.hid en
  have DE := Lib.hid (fun W => Decode_val s.data.toList W hsl)
  have DD := Lib.hid dd
  have N1 := Lib.hid n1
  have N2 := Lib.hid n2
  have NB := Lib.hid nb
  have HW := Lib.hid hW3
  have KK := Lib.hid hk
  clear hk hW3 n1 n2 n3 nb en hs dl dd hsl hx hy
  go_enter Try.func6, Try.ntmps6
  go_wp2_with fail
  rw [← HW.out]
  refine (EN.out).mono ?_; rintro e w3 ⟨rfl, h3⟩
  go_wp2_with fail
  have d1 := DE.out w3
  have es : (⟨s.data.toList.toArray⟩ : ByteArray) = s := rfl
  rw [es, DD.out.1, DD.out.2] at d1
  clear es
  refine d1.mono ?_; rintro e w4 ⟨⟨v, rfl, sv⟩, h4⟩
  have g4 := below_step h3 h4
  clear d1 h3 h4
  rcases sv with ⟨h0, _⟩ | ⟨_, b, off, cap, rfl, _, hx⟩
  · cases h0
  obtain ⟨v0, s0, a0⟩ := hx 0 (show 0 < 2 by omega)
  obtain ⟨v1, s1, a1⟩ := hx 1 (show 1 < 2 by omega)
  clear hx
  have r1 := (g4.block _ (lt_of_rowS N1.out)).trans N1.out
  have r2 := (g4.block _ (lt_of_rowS N2.out)).trans N2.out
  have SX : Hid (∀ V, Below w4.heap.size w4 V → Calls Try.prog 19 #[.agg #[.int .i64 0, .int .i64 0, .string ⟨#[]⟩, .string ⟨#[]⟩, .float .f64 x, .int .i64 0, .int .u64 0, .slice none 0 0, .int .i64 0, .int .i64 0], .agg ((bx x).row v0)] V fun e w' => e = .returned (.bool true) ∧ Below V.heap.size V w') :=
    Lib.hid (fun V h => Same_val (bx x) (bx x) (.slice none 0 0) v0 V (by show (0 : Nat) ≤ 140737488351232; decide) (Sb.nil V) (s0.below h (Nat.le_refl _)) true (Lib.hid (decide_eq_true rfl).symm))
  have SY : Hid (∀ V : World, Calls Try.prog 19 #[.agg #[.int .i64 0, .int .i64 0, .string ⟨#[]⟩, .string ⟨#[]⟩, .float .f64 x, .int .i64 0, .int .u64 0, .slice none 0 0, .int .i64 0, .int .i64 0], .agg #[.int .i64 0, .int .i64 0, .string ⟨#[]⟩, .string ⟨#[]⟩, .float .f64 y, .int .i64 0, .int .u64 0, .slice none 0 0, .int .i64 0, .int .i64 0]] V fun e w' => e = .returned (.bool z) ∧ Below V.heap.size V w') :=
    Lib.hid (fun V => Same_val (bx x) (bx y) (.slice none 0 0) (.slice none 0 0) V (by show (0 : Nat) ≤ 140737488351232; decide) (Sb.nil V) (Sb.nil V) z hz)
  obtain ⟨p0, p1, p2, p3, p4, p5, p6, p7, p8, p9⟩ := cells10 r1
  obtain ⟨q0, q1, q2, q3, q4, q5, q6, q7, q8, q9⟩ := cells10 r2
  obtain ⟨m0, m1, m2, m3, m4, m5, m6, m7, m8, m9⟩ := a0
  obtain ⟨oa0, cap0, rfl⟩ := s0.form
  have M0 := cell_regrown (show w4.cell? ⟨b, off, none⟩ = some (.int .i64 0) from m0)
  have M1 := cell_regrown (show w4.cell? ⟨b, off + 1, none⟩ = some (.int .i64 0) from m1)
  have M2 := cell_regrown (show w4.cell? ⟨b, off + 2, none⟩ = some (.string ⟨#[]⟩) from m2)
  have M3 := cell_regrown (show w4.cell? ⟨b, off + 3, none⟩ = some (.string ⟨#[]⟩) from m3)
  have M4 := cell_regrown (show w4.cell? ⟨b, off + 4, none⟩ = some (.float .f64 x) from m4)
  have M5 := cell_regrown (show w4.cell? ⟨b, off + 5, none⟩ = some (.int .i64 0) from m5)
  have M6 := cell_regrown (show w4.cell? ⟨b, off + 6, none⟩ = some (.int .u64 0) from m6)
  have M7 := cell_regrown (show w4.cell? ⟨b, off + 7, none⟩ = some (.slice oa0 ([] : List Bool).length cap0) from m7)
  have M8 := cell_regrown (show w4.cell? ⟨b, off + 8, none⟩ = some (.int .i64 0) from m8)
  have M9 := cell_regrown (show w4.cell? ⟨b, off + 9, none⟩ = some (.int .i64 0) from m9)
  have K4 := cell_regrown (show w4.cell? ⟨b, off + 14, none⟩ = some (.float .f64 y) from a1.2.2.2.2.1)
  have P0 := cell_regrown p0
  have Q0 := cell_regrown q0
  have P1 := cell_regrown p1
  have Q1 := cell_regrown q1
  have P2 := cell_regrown p2
  have Q2 := cell_regrown q2
  have P3 := cell_regrown p3
  have Q3 := cell_regrown q3
  have P4 := cell_regrown p4
  have Q4 := cell_regrown q4
  have P5 := cell_regrown p5
  have Q5 := cell_regrown q5
  have P6 := cell_regrown p6
  have Q6 := cell_regrown q6
  have P7 := cell_regrown p7
  have Q7 := cell_regrown q7
  have P8 := cell_regrown p8
  have Q8 := cell_regrown q8
  have P9 := cell_regrown p9
  have Q9 := cell_regrown q9
  have G4 := Lib.hid g4
  clear g4 r1 r2 p0 p1 p2 p3 p4 p5 p6 p7 p8 p9 q0 q1 q2 q3 q4 q5 q6 q7 q8 q9 m0 m1 m2 m3 m4 m5 m6 m7 m8 m9 a1 s1 s0
  go_wp2_with fail
  refine Loose.wp_region_quiet_fast (by kernel_rfl) (by kernel_rfl) ?_
  (try simp only [List.append_eq, List.cons_append, List.nil_append])
  repeat (go_big_quiet_step (fail))
  go_big_quiet_step ((go_at_call 19; exact Calls.regrown_of (SX.out _ (below_regrown _ _ _))))
  repeat (go_big_quiet_step (fail))
  go_big_quiet_step ((go_at_call 19; exact Calls.regrown_of (SY.out _)))
  repeat (go_big_quiet_step (fail))
  go_big_quiet_step ((go_at_call 21; exact Calls.regrown_of (fixed_val _)))
  repeat (go_big_quiet_step (fail))
  refine wpQuiet_nil ?_
  intro _ hw'
  obtain ⟨⟨dq, osq⟩, hw''⟩ := hw'
  subst hw''
  go_wp2_with fail
  go_ret
  exact ⟨rfl, below_step NB.out (below_step G4.out (below_regrown _ dq osq))⟩
theorem ScriptBits_walk (a0 a1 : Int) (w : World) (w0 : (Lit.int .u64 a0).wf = true) (w1 : (Lit.int .u64 a1).wf = true) :
    Calls Try.prog 6 #[.int .u64 a0, .int .u64 a1] w fun e w' => e = .returned (.bool true) ∧ Below w.heap.size w w' := by
  obtain ⟨x, rfl, hx⟩ := u64_wf _ w0
  obtain ⟨y, rfl, hy⟩ := u64_wf _ w1
  by_cases h : x = y
  · subst h
    exact bits_main x x true w hx hy (Lib.hid (decide_eq_true rfl).symm) (beq_self_eq_true _)
  · exact bits_main x y false w hx hy (Lib.hid (decide_eq_false (fun e => h (by injection e))).symm) (beq_eq_false_iff_ne.2 (by omega))
end Go.Proofs.Ytjkiofgllmjkcaa.L
