/- The fixed calls of package script. -/
import Derived.Test.YtjkiofgllmjkcaaSb
import Derived.Test.YtjkiofgllmjkcaaSg
import Derived.Test.YtjkiofgllmjkcaaGFast
import Derived.BigQuiet
namespace Go.Proofs.Ytjkiofgllmjkcaa.G
open Go.RowKit Go.Proofs.Ytjkiofgllmjkcaa.WordPlain Go.Proofs.Ytjkiofgllmjkcaa.Loose
set_option linter.unusedVariables false
set_option linter.unusedSimpArgs false

def f0 : Ac := { Ac.zero with kind := 3 }
def f1 : Ac := { Ac.zero with kind := 1, n := 5 }
def f2 : Ac := { Ac.zero with rk := 1, id := ⟨#[97]⟩, ttl := 9221120237041090561, pick := 2 }
def f3 : Ac := { Ac.zero with kind := 5, keep := [true, false], torn := 258, pl := 3, n := 1 }
def fL : List Ac := [f0, f1, f2, f3]
theorem fL_enc : encV fL = ⟨#[3, 1, 5, 0, 0, 0, 0, 0, 0, 0, 0, 1, 1, 97, 0, 1, 0, 0, 0, 0, 0, 248, 127, 2, 5, 2, 1, 0, 2, 1, 3, 1, 0, 0, 0, 0, 0, 0, 0]⟩ ∧ encE fL = 0 := by decide +kernel
theorem fL_dec : decA ⟨#[3, 1, 5, 0, 0, 0, 0, 0, 0, 0, 0, 1, 1, 97, 0, 1, 0, 0, 0, 0, 0, 248, 127, 2, 5, 2, 1, 0, 2, 1, 3, 1, 0, 0, 0, 0, 0, 0, 0]⟩ = fL ∧ decX ⟨#[3, 1, 5, 0, 0, 0, 0, 0, 0, 0, 0, 1, 1, 97, 0, 1, 0, 0, 0, 0, 0, 248, 127, 2, 5, 2, 1, 0, 2, 1, 3, 1, 0, 0, 0, 0, 0, 0, 0]⟩ = 0 := by decide +kernel
theorem f_bad : decX ⟨#[6]⟩ = 5 ∧ decX ⟨#[1, 5]⟩ = 6 ∧ decX ⟨#[5, 1, 2]⟩ = 5 ∧ decX ⟨#[5, 0, 0, 0, 129]⟩ = 5 := by decide +kernel
def fS : Ac := { Ac.zero with kind := 3, n := 1 }
theorem fS_enc : encE [fS] = 5 := by decide +kernel

theorem fL_kind : ∀ a ∈ fL, a.Kind := by
  intro a ha
  simp only [fL, List.mem_cons, List.not_mem_nil, or_false] at ha
  rcases ha with rfl | rfl | rfl | rfl <;> exact ⟨by decide, by decide, by decide, by decide, by decide, by decide, by decide, by decide, by decide, by decide⟩
theorem fS_kind : ∀ a ∈ [fS], a.Kind := by
  intro a ha
  rw [List.mem_singleton.1 ha]
  exact ⟨by decide, by decide, by decide, by decide, by decide, by decide, by decide, by decide, by decide, by decide⟩
theorem fL_in (W : World) (K B : Nat) (hK : W.heap[K]? = some (.cells #[.bool true, .bool false] 4 (0, 0))) (hB : W.heap[B]? = some (.cells #[.int .i64 3, .int .i64 0, .string ⟨#[]⟩, .string ⟨#[]⟩, .float .f64 0, .int .i64 0, .int .u64 0, .slice none 0 0, .int .i64 0, .int .i64 0, .int .i64 1, .int .i64 0, .string ⟨#[]⟩, .string ⟨#[]⟩, .float .f64 0, .int .i64 0, .int .u64 5, .slice none 0 0, .int .i64 0, .int .i64 0, .int .i64 0, .int .i64 1, .string ⟨#[97]⟩, .string ⟨#[]⟩, .float .f64 9221120237041090561, .int .i64 2, .int .u64 0, .slice none 0 0, .int .i64 0, .int .i64 0, .int .i64 5, .int .i64 0, .string ⟨#[]⟩, .string ⟨#[]⟩, .float .f64 0, .int .i64 0, .int .u64 1, .slice (some ⟨K, 0, none⟩) 2 2, .int .i64 258, .int .i64 3] 29 (0, 0))) : SA W (.slice (some ⟨B, 0, none⟩) 4 4) fL := by
  refine SA.of_rows (base := 0) (ty := 29) (acc := fL) (vks := [.slice none 0 0, .slice none 0 0, .slice none 0 0, .slice (some ⟨K, 0, none⟩) 2 2]) ⟨rfl, Or.inr ⟨B, 4, _, rfl, Nat.zero_le _, hB, by decide, by decide, rfl, rfl⟩⟩ rfl ?_
  intro i h h'
  match i, h, h' with
  | 0, _, _ => exact Sb.nil W
  | 1, _, _ => exact Sb.nil W
  | 2, _, _ => exact Sb.nil W
  | 3, _, _ =>
    refine Or.inr ⟨(by show ([true, false] : List Bool) ≠ []; decide), K, 0, 2, rfl, (show 2 ≤ 2 from Nat.le_refl _), fun j hj => ?_⟩
    match j, hj with
    | 0, _ => exact (cell_of_row _ _ 0 _ _ _ hK).trans rfl
    | 1, _ => exact (cell_of_row _ _ 1 _ _ _ hK).trans rfl
theorem one_in (W : World) (B : Nat) (a : Ac) (vk : Value) (hB : W.heap[B]? = some (.cells (a.row vk) 29 (0, 0))) (hk : Sb W vk a.keep) : SA W (.slice (some ⟨B, 0, none⟩) 1 1) [a] := by
  have e : (rows [a] [vk]).length = [a].length * 10 := by simp [rows, Ac.row]
  refine SA.of_rows (base := 0) (ty := 29) (acc := [a]) (vks := [vk]) ⟨e, Or.inr ⟨B, 1, _, rfl, Nat.zero_le _, hB, Nat.le_refl _, by decide, rfl, ?_⟩⟩ rfl ?_
  · simp [rows, Ac.row]
  · intro i h h'
    match i, h, h' with
    | 0, _, _ => exact hk
theorem stab_SA (l : List Ac) : Stab (fun u W => SA W u l) := fun v w w' h hb => h.below hb (Nat.le_refl _)
def f6 : Ac := { Ac.zero with kind := 6 }
def fM : Ac := { Ac.zero with ttl := 9223372036854775808 }

theorem put_sizeF (a : Go.Act) (d : Option Tmp) (v : Value) : (a.put d v).tmps.size = a.tmps.size := by
  cases d <;> simp [Act.put]
theorem put_defersF (a : Go.Act) (d : Option Tmp) (v : Value) : (a.put d v).defers = a.defers := by
  cases d <;> simp [Act.put]
theorem put_ret {P : Program} {fn : Func} {R : Ending → World → Prop} {a : Go.Act} {w : World} {v u : Value} {t s : Nat} (h : fn.results = #[.tmp t]) (ht : a.tmps.size = s) (hts : t < s) (hd : a.defers = []) (hv : v = u) (hR : R (.returned u) w) : bodyPost P fn R .ret (a.put (some t) v) w := by
  subst hv
  subst ht
  refine bodyPost_ret (results_tmp h _ _ _) ((put_defersF _ _ _).trans hd) ?_
  have e : (a.put (some t) v).tmps.getD t undef = v := by simp [Act.put, hts]
  rw [e]; exact hR

set_option maxRecDepth 100000 in
set_option maxHeartbeats 8000000 in
theorem fixed_val (w : World) : Calls Try.prog 21 #[] w fun e w' => e = .returned (.bool true) ∧ Below w.heap.size w w' := by
  have fr : ∀ W : World, (callFunc 22 #[.int .u64 9221120237041090561]).run Try.prog W = .ok (.value (.float .f64 9221120237041090561)) W := fun _ => by kernel_rfl
  have fr2 : ∀ W : World, (callFunc 22 #[.int .u64 9223372036854775808]).run Try.prog W = .ok (.value (.float .f64 9223372036854775808)) W := fun _ => by kernel_rfl
  go_enter Try.func21, Try.ntmps21
  go_wp2_with fail
  obtain ⟨n1, n2, n3⟩ := two_newA w (.cells #[.bool true, .bool false] 4) (.cells #[.int .i64 3, .int .i64 0, .string ⟨#[]⟩, .string ⟨#[]⟩, .float .f64 0, .int .i64 0, .int .u64 0, .slice none 0 0, .int .i64 0, .int .i64 0, .int .i64 1, .int .i64 0, .string ⟨#[]⟩, .string ⟨#[]⟩, .float .f64 0, .int .i64 0, .int .u64 5, .slice none 0 0, .int .i64 0, .int .i64 0, .int .i64 0, .int .i64 1, .string ⟨#[97]⟩, .string ⟨#[]⟩, .float .f64 9221120237041090561, .int .i64 2, .int .u64 0, .slice none 0 0, .int .i64 0, .int .i64 0, .int .i64 5, .int .i64 0, .string ⟨#[]⟩, .string ⟨#[]⟩, .float .f64 0, .int .i64 0, .int .u64 1, .slice (some ⟨w.heap.size, 0, none⟩) 2 2, .int .i64 258, .int .i64 3] 29)
  obtain ⟨W2, hW2⟩ : ∃ W, W = (w.alloc (.cells #[.bool true, .bool false] 4)).alloc (.cells #[.int .i64 3, .int .i64 0, .string ⟨#[]⟩, .string ⟨#[]⟩, .float .f64 0, .int .i64 0, .int .u64 0, .slice none 0 0, .int .i64 0, .int .i64 0, .int .i64 1, .int .i64 0, .string ⟨#[]⟩, .string ⟨#[]⟩, .float .f64 0, .int .i64 0, .int .u64 5, .slice none 0 0, .int .i64 0, .int .i64 0, .int .i64 0, .int .i64 1, .string ⟨#[97]⟩, .string ⟨#[]⟩, .float .f64 9221120237041090561, .int .i64 2, .int .u64 0, .slice none 0 0, .int .i64 0, .int .i64 0, .int .i64 5, .int .i64 0, .string ⟨#[]⟩, .string ⟨#[]⟩, .float .f64 0, .int .i64 0, .int .u64 1, .slice (some ⟨w.heap.size, 0, none⟩) 2 2, .int .i64 258, .int .i64 3] 29) := ⟨_, rfl⟩
  rw [← hW2] at n1 n2 n3 ⊢
  have hsa := fL_in W2 _ _ n1 n2
  have HSA := Lib.hid hsa
  have N2 := Lib.hid n2
  have N3 := Lib.hid n3
  have e1 := Encode_val fL _ W2 (by decide) fL_kind hsa
  rw [fL_enc.1, fL_enc.2] at e1
  clear hW2 n1 n2 n3 hsa
  refine e1.mono ?_; rintro e w3 ⟨rfl, g3⟩
  clear e1
  go_wp2_with fail
  have d1 := Decode_val [3, 1, 5, 0, 0, 0, 0, 0, 0, 0, 0, 1, 1, 97, 0, 1, 0, 0, 0, 0, 0, 248, 127, 2, 5, 2, 1, 0, 2, 1, 3, 1, 0, 0, 0, 0, 0, 0, 0] w3 (by decide)
  rw [show decA ⟨[3, 1, 5, 0, 0, 0, 0, 0, 0, 0, 0, 1, 1, 97, 0, 1, 0, 0, 0, 0, 0, 248, 127, 2, 5, 2, 1, 0, 2, 1, 3, 1, 0, 0, 0, 0, 0, 0, 0].toArray⟩ = fL from fL_dec.1, show decX ⟨[3, 1, 5, 0, 0, 0, 0, 0, 0, 0, 0, 1, 1, 97, 0, 1, 0, 0, 0, 0, 0, 248, 127, 2, 5, 2, 1, 0, 2, 1, 3, 1, 0, 0, 0, 0, 0, 0, 0].toArray⟩ = 0 from fL_dec.2] at d1
  refine d1.mono ?_; rintro e w4 ⟨⟨vm, rfl, sm⟩, h4⟩
  have g4 := below_step g3 h4
  have SM := Lib.hid sm
  clear d1 sm h4 g3
  go_wp2_with fail
  have d1 := Decode_val [6] w4 (by decide)
  rw [show decX ⟨[6].toArray⟩ = 5 from f_bad.1] at d1
  refine d1.mono ?_; rintro e w5 ⟨⟨v5, rfl, _⟩, h5⟩
  have g5 := below_step g4 h5
  clear d1
  go_wp2_with fail
  have d1 := Decode_val [1, 5] w5 (by decide)
  rw [show decX ⟨[1, 5].toArray⟩ = 6 from f_bad.2.1] at d1
  refine d1.mono ?_; rintro e w6 ⟨⟨v6, rfl, _⟩, h6⟩
  have g6 := below_step g5 h6
  clear d1
  go_wp2_with fail
  have d1 := Decode_val [5, 1, 2] w6 (by decide)
  rw [show decX ⟨[5, 1, 2].toArray⟩ = 5 from f_bad.2.2.1] at d1
  refine d1.mono ?_; rintro e w7 ⟨⟨v7, rfl, _⟩, h7⟩
  have g7 := below_step g6 h7
  clear d1
  go_wp2_with fail
  have d1 := Decode_val [5, 0, 0, 0, 129] w7 (by decide)
  rw [show decX ⟨[5, 0, 0, 0, 129].toArray⟩ = 5 from f_bad.2.2.2] at d1
  refine d1.mono ?_; rintro e w8 ⟨⟨v8, rfl, _⟩, h8⟩
  have g8 := below_step g7 h8
  clear d1
  go_wp2_with fail
  have n5 := heap_alloc_new w8 (.cells (fS.row (.slice none 0 0)) 29)
  have g9 := g8.alloc g8.size (.cells (fS.row (.slice none 0 0)) 29)
  have e2 := Encode_val [fS] _ (w8.alloc (.cells (fS.row (.slice none 0 0)) 29)) (by decide) fS_kind (one_in _ _ fS _ n5 (Sb.nil _))
  rw [fS_enc] at e2
  refine e2.mono ?_; rintro e W ⟨rfl, hx⟩
  have g := below_step g9 hx
  have h48 : Below w4.heap.size w4 W := (((((below_step (below_step (below_step h5 h6) h7) h8)).alloc (by have := (below_step (below_step (below_step h5 h6) h7) h8).size; omega) (.cells (fS.row (.slice none 0 0)) 29)).trans (hx.mono (by have := (below_step (below_step (below_step h5 h6) h7) h8).size; rw [alloc_size]; omega))))
  have sm := SM.out.below h48 (Nat.le_refl _)
  have sl := HSA.out.below g (Nat.le_refl _)
  have RL : ∀ V, Below W.heap.size W V → V.heap[w.heap.size + 1]? = some (.cells #[.int .i64 3, .int .i64 0, .string ⟨#[]⟩, .string ⟨#[]⟩, .float .f64 0, .int .i64 0, .int .u64 0, .slice none 0 0, .int .i64 0, .int .i64 0, .int .i64 1, .int .i64 0, .string ⟨#[]⟩, .string ⟨#[]⟩, .float .f64 0, .int .i64 0, .int .u64 5, .slice none 0 0, .int .i64 0, .int .i64 0, .int .i64 0, .int .i64 1, .string ⟨#[97]⟩, .string ⟨#[]⟩, .float .f64 9221120237041090561, .int .i64 2, .int .u64 0, .slice none 0 0, .int .i64 0, .int .i64 0, .int .i64 5, .int .i64 0, .string ⟨#[]⟩, .string ⟨#[]⟩, .float .f64 0, .int .i64 0, .int .u64 1, .slice (some ⟨w.heap.size, 0, none⟩) 2 2, .int .i64 258, .int .i64 3] 29 (0, 0)) := fun V h => ((below_step g h).block _ (lt_of_rowS N2.out)).trans N2.out
  have t20 : ∀ V, Below W.heap.size W V → V.cell? ⟨w.heap.size + 1, 20, none⟩ = some (.int .i64 0) := fun V h => (cell_of_row _ _ 20 _ _ _ (RL V h)).trans rfl
  have t21 : ∀ V, Below W.heap.size W V → V.cell? ⟨w.heap.size + 1, 21, none⟩ = some (.int .i64 1) := fun V h => (cell_of_row _ _ 21 _ _ _ (RL V h)).trans rfl
  have t22 : ∀ V, Below W.heap.size W V → V.cell? ⟨w.heap.size + 1, 22, none⟩ = some (.string ⟨#[97]⟩) := fun V h => (cell_of_row _ _ 22 _ _ _ (RL V h)).trans rfl
  have t23 : ∀ V, Below W.heap.size W V → V.cell? ⟨w.heap.size + 1, 23, none⟩ = some (.string ⟨#[]⟩) := fun V h => (cell_of_row _ _ 23 _ _ _ (RL V h)).trans rfl
  have t24 : ∀ V, Below W.heap.size W V → V.cell? ⟨w.heap.size + 1, 24, none⟩ = some (.float .f64 9221120237041090561) := fun V h => (cell_of_row _ _ 24 _ _ _ (RL V h)).trans rfl
  have t25 : ∀ V, Below W.heap.size W V → V.cell? ⟨w.heap.size + 1, 25, none⟩ = some (.int .i64 2) := fun V h => (cell_of_row _ _ 25 _ _ _ (RL V h)).trans rfl
  have t26 : ∀ V, Below W.heap.size W V → V.cell? ⟨w.heap.size + 1, 26, none⟩ = some (.int .u64 0) := fun V h => (cell_of_row _ _ 26 _ _ _ (RL V h)).trans rfl
  have t27 : ∀ V, Below W.heap.size W V → V.cell? ⟨w.heap.size + 1, 27, none⟩ = some (.slice none 0 0) := fun V h => (cell_of_row _ _ 27 _ _ _ (RL V h)).trans rfl
  have t28 : ∀ V, Below W.heap.size W V → V.cell? ⟨w.heap.size + 1, 28, none⟩ = some (.int .i64 0) := fun V h => (cell_of_row _ _ 28 _ _ _ (RL V h)).trans rfl
  have t29 : ∀ V, Below W.heap.size W V → V.cell? ⟨w.heap.size + 1, 29, none⟩ = some (.int .i64 0) := fun V h => (cell_of_row _ _ 29 _ _ _ (RL V h)).trans rfl
  have SM2 := Lib.hid sm
  have SL2 := Lib.hid sl
  have PB := Lib.hid (below_step N3.out g)
  have rr := fun V => Right_val f2 (.slice none 0 0) V (by decide) (Sb.nil V)
  rw [show decide f2.Right = true from by decide +kernel] at rr
  have RR := Lib.hid rr
  have r6 := fun V => Right_val f6 (.slice none 0 0) V (by decide) (Sb.nil V)
  rw [show decide f6.Right = false from by decide +kernel] at r6
  have R6 := Lib.hid r6
  have S2 : Hid (∀ V : World, Calls Try.prog 19 #[.agg #[.int .i64 0, .int .i64 1, .string ⟨#[97]⟩, .string ⟨#[]⟩, .float .f64 9221120237041090561, .int .i64 2, .int .u64 0, .slice none 0 0, .int .i64 0, .int .i64 0], .agg #[.int .i64 0, .int .i64 1, .string ⟨#[97]⟩, .string ⟨#[]⟩, .float .f64 9221120237041090561, .int .i64 2, .int .u64 0, .slice none 0 0, .int .i64 0, .int .i64 0]] V fun e w' => e = .returned (.bool true) ∧ Below V.heap.size V w') :=
    Lib.hid (fun V => Same_val f2 f2 (.slice none 0 0) (.slice none 0 0) V (by decide) (Sb.nil V) (Sb.nil V) true (Lib.hid (by decide +kernel)))
  have S6 : Hid (∀ V : World, Calls Try.prog 19 #[.agg #[.int .i64 0, .int .i64 0, .string ⟨#[]⟩, .string ⟨#[]⟩, .float .f64 9223372036854775808, .int .i64 0, .int .u64 0, .slice none 0 0, .int .i64 0, .int .i64 0], .agg #[.int .i64 0, .int .i64 0, .string ⟨#[]⟩, .string ⟨#[]⟩, .float .f64 0, .int .i64 0, .int .u64 0, .slice none 0 0, .int .i64 0, .int .i64 0]] V fun e w' => e = .returned (.bool false) ∧ Below V.heap.size V w') :=
    Lib.hid (fun V => Same_val fM Ac.zero (.slice none 0 0) (.slice none 0 0) V (by decide) (Sb.nil V) (Sb.nil V) false (Lib.hid (by decide +kernel)))
  clear n5 g9 e2 hx g h48 sm sl RL rr r6 h5 h6 h7 h8 g4 g5 g6 g7 g8
  go_wp2_with fail
  refine wp_region_loose_fast (by kernel_rfl) (by kernel_rfl) ?_
  refine wpL_det ?_
  apply Exists.intro
  refine ⟨?_, ?_⟩
  · intro vs w' hC hk
    (try simp [Know.add, depOn, Region.binds] at hk)
    go_simp
    exact ⟨Below.refl _ _, rfl⟩
  refine wpL_det ?_
  apply Exists.intro
  refine ⟨?_, ?_⟩
  · intro vs w' hC hk
    (try simp [Know.add, depOn, Region.binds] at hk)
    go_simp
    exact ⟨Below.refl _ _, rfl⟩
  refine wpL_det ?_
  apply Exists.intro
  refine ⟨?_, ?_⟩
  · intro vs w' hC hk
    (try simp [Know.add, depOn, Region.binds] at hk)
    go_simp
    exact ⟨Below.refl _ _, rfl⟩
  refine wpL_det ?_
  apply Exists.intro
  refine ⟨?_, ?_⟩
  · intro vs w' hC hk
    (try simp [Know.add, depOn, Region.binds] at hk)
    go_simp
    exact ⟨Below.refl _ _, rfl⟩
  refine wpL_det ?_
  apply Exists.intro
  refine ⟨?_, ?_⟩
  · intro vs w' hC hk
    (try simp [Know.add, depOn, Region.binds] at hk)
    go_simp
    exact ⟨Below.refl _ _, rfl⟩
  refine wpL_det ?_
  apply Exists.intro
  refine ⟨?_, ?_⟩
  · intro vs w' hC hk
    (try simp [Know.add, depOn, Region.binds] at hk)
    go_simp
    exact ⟨Below.refl _ _, rfl⟩
  refine wpL_det ?_
  apply Exists.intro
  refine ⟨?_, ?_⟩
  · intro vs w' hC hk
    (try simp [Know.add, depOn, Region.binds] at hk)
    go_simp
    exact ⟨Below.refl _ _, rfl⟩
  refine wpL_det ?_
  apply Exists.intro
  refine ⟨?_, ?_⟩
  · intro vs w' hC hk
    (try simp [Know.add, depOn, Region.binds] at hk)
    go_simp
    exact ⟨Below.refl _ _, rfl⟩
  refine wpL_step (fun u V => SA V u fL) (stab_SA fL) ?_ ?_
  · intro vs w' hC hk
    (try simp [Know.add, depOn, Region.binds] at hk)
    go_simp
    refine (Refs_val fL vm w' (by decide) (SM2.out.below hC (Nat.le_refl _))).mono ?_
    rintro e w'' ⟨⟨u, rfl, hs⟩, hb⟩
    exact ⟨u, rfl, hb, hs⟩
  refine wpL_det ?_
  apply Exists.intro
  refine ⟨?_, ?_⟩
  · intro vs w' hC hk
    (try simp [Know.add, depOn, Region.binds] at hk)
    go_simp
    exact ⟨Below.refl _ _, rfl⟩
  refine wpL_step (fun u V => SA V u fL) (stab_SA fL) ?_ ?_
  · intro vs w' hC hk
    (try simp [Know.add, depOn, Region.binds] at hk)
    go_simp
    refine (Refs_val fL _ w' (by decide) (SL2.out.below hC (Nat.le_refl _))).mono ?_
    rintro e w'' ⟨⟨u, rfl, hs⟩, hb⟩
    exact ⟨u, rfl, hb, hs⟩
  refine wpL_det ?_
  apply Exists.intro
  refine ⟨?_, ?_⟩
  · intro vs w' hC hk
    have hA : SA w' (vs 8) fL := hk.1.1.2 (by kernel_rfl)
    have hB : SA w' (vs 10) fL := hk.2 (by kernel_rfl)
    have hg6 : vs 6 = .bool true := hk.1.1.1.1.2 (by kernel_rfl)
    have al := All_val fL fL _ _ w' (by decide) (fun a ha => (fL_kind a ha).keep) hA hB
    rw [show decide (fL = fL) = true from decide_eq_true rfl] at al
    clear hk
    go_simp
    refine al.mono ?_
    rintro e w'' ⟨rfl, hb⟩
    first | exact ⟨rfl, hb⟩ | exact ⟨_, rfl, hb, rfl⟩
  refine wpL_det ?_
  apply Exists.intro
  refine ⟨?_, ?_⟩
  · intro vs w' hC hk
    (try simp [Know.add, depOn, Region.binds] at hk)
    go_simp
    exact ⟨Below.refl _ _, rfl⟩
  refine wpL_det ?_
  apply Exists.intro
  refine ⟨?_, ?_⟩
  · intro vs w' hC hk
    (try simp [Know.add, depOn, Region.binds] at hk)
    go_simp
    exact ⟨Below.refl _ _, rfl⟩
  refine wpL_det ?_
  apply Exists.intro
  refine ⟨?_, ?_⟩
  · intro vs w' hC hk
    (try simp [Know.add, depOn, Region.binds] at hk)
    go_simp
    exact ⟨Below.refl _ _, rfl⟩
  refine wpL_det ?_
  apply Exists.intro
  refine ⟨?_, ?_⟩
  · intro vs w' hC hk
    (try simp [Know.add, depOn, Region.binds] at hk)
    go_simp
    exact ⟨Below.refl _ _, rfl⟩
  refine wpL_det ?_
  apply Exists.intro
  refine ⟨?_, ?_⟩
  · intro vs w' hC hk
    (try simp [Know.add, depOn, Region.binds] at hk)
    go_simp
    exact ⟨Below.refl _ _, rfl⟩
  refine wpL_det ?_
  apply Exists.intro
  refine ⟨?_, ?_⟩
  · intro vs w' hC hk
    (try simp [Know.add, depOn, Region.binds] at hk)
    go_simp
    exact ⟨Below.refl _ _, rfl⟩
  refine wpL_det ?_
  apply Exists.intro
  refine ⟨?_, ?_⟩
  · intro vs w' hC hk
    (try simp [Know.add, depOn, Region.binds] at hk)
    go_simp
    exact ⟨Below.refl _ _, rfl⟩
  refine wpL_det ?_
  apply Exists.intro
  refine ⟨?_, ?_⟩
  · intro vs w' hC hk
    (try simp [Know.add, depOn, Region.binds] at hk)
    go_simp
    exact ⟨Below.refl _ _, rfl⟩
  refine wpL_det ?_
  apply Exists.intro
  refine ⟨?_, ?_⟩
  · intro vs w' hC hk
    (try simp [Know.add, depOn, Region.binds] at hk)
    go_simp
    exact ⟨Below.refl _ _, rfl⟩
  refine wpL_det ?_
  apply Exists.intro
  refine ⟨?_, ?_⟩
  · intro vs w' hC hk
    (try simp [Know.add, depOn, Region.binds] at hk)
    go_simp
    exact ⟨Below.refl _ _, rfl⟩
  refine wpL_det ?_
  apply Exists.intro
  refine ⟨?_, ?_⟩
  · intro vs w' hC hk
    (try simp [Know.add, depOn, Region.binds] at hk)
    go_simp
    exact ⟨Below.refl _ _, rfl⟩
  refine wpL_det ?_
  apply Exists.intro
  refine ⟨?_, ?_⟩
  · intro vs w' hC hk
    (try simp [Know.add, depOn, Region.binds] at hk)
    go_simp
    exact ⟨Below.refl _ _, rfl⟩
  refine wpL_det ?_
  apply Exists.intro
  refine ⟨?_, ?_⟩
  · intro vs w' hC hk
    (try simp [Know.add, depOn, Region.binds] at hk)
    go_simp
    exact ⟨Below.refl _ _, rfl⟩
  refine wpL_det ?_
  apply Exists.intro
  refine ⟨?_, ?_⟩
  · intro vs w' hC hk
    (try simp [Know.add, depOn, Region.binds] at hk)
    go_simp
    exact ⟨Below.refl _ _, rfl⟩
  refine wpL_det ?_
  apply Exists.intro
  refine ⟨?_, ?_⟩
  · intro vs w' hC hk
    (try simp [Know.add, depOn, Region.binds] at hk)
    go_simp
    exact ⟨Below.refl _ _, rfl⟩
  refine wpL_det ?_
  apply Exists.intro
  refine ⟨?_, ?_⟩
  · intro vs w' hC hk
    (try simp [Know.add, depOn, Region.binds] at hk)
    go_simp
    exact ⟨Below.refl _ _, rfl⟩
  refine wpL_det ?_
  apply Exists.intro
  refine ⟨?_, ?_⟩
  · intro vs w' hC hk
    (try simp [Know.add, depOn, Region.binds] at hk)
    go_simp
    exact ⟨Below.refl _ _, rfl⟩
  refine wpL_det ?_
  apply Exists.intro
  refine ⟨?_, ?_⟩
  · intro vs w' hC hk
    (try simp [Know.add, depOn, Region.binds] at hk)
    go_simp
    exact ⟨Below.refl _ _, rfl⟩
  refine wpL_det ?_
  apply Exists.intro
  refine ⟨?_, ?_⟩
  · intro vs w' hC hk
    (try simp [Know.add, depOn, Region.binds] at hk)
    go_simp
    exact ⟨Below.refl _ _, rfl⟩
  refine wpL_det ?_
  apply Exists.intro
  refine ⟨?_, ?_⟩
  · intro vs w' hC hk
    (try simp [Know.add, depOn, Region.binds] at hk)
    go_simp
    exact ⟨Below.refl _ _, rfl⟩
  refine wpL_det ?_
  apply Exists.intro
  refine ⟨?_, ?_⟩
  · intro vs w' hC hk
    (try simp [Know.add, depOn, Region.binds] at hk)
    go_simp
    exact ⟨Below.refl _ _, rfl⟩
  refine wpL_det ?_
  apply Exists.intro
  refine ⟨?_, ?_⟩
  · intro vs w' hC hk
    (try simp [Know.add, depOn, Region.binds] at hk)
    go_simp
    exact ⟨Below.refl _ _, rfl⟩
  refine wpL_det ?_
  apply Exists.intro
  refine ⟨?_, ?_⟩
  · intro vs w' hC hk
    (try simp [Know.add, depOn, Region.binds] at hk)
    go_simp
    exact ⟨Below.refl _ _, rfl⟩
  refine wpL_det ?_
  apply Exists.intro
  refine ⟨?_, ?_⟩
  · intro vs w' hC hk
    (try simp [Know.add, depOn, Region.binds] at hk)
    go_simp
    exact ⟨Below.refl _ _, rfl⟩
  refine wpL_det ?_
  apply Exists.intro
  refine ⟨?_, ?_⟩
  · intro vs w' hC hk
    (try simp [Know.add, depOn, Region.binds] at hk)
    go_simp
    exact ⟨Below.refl _ _, rfl⟩
  refine wpL_det ?_
  apply Exists.intro
  refine ⟨?_, ?_⟩
  · intro vs w' hC hk
    (try simp [Know.add, depOn, Region.binds] at hk)
    go_simp
    exact ⟨Below.refl _ _, rfl⟩
  refine wpL_det ?_
  apply Exists.intro
  refine ⟨?_, ?_⟩
  · intro vs w' hC hk
    (try simp [Know.add, depOn, Region.binds] at hk)
    go_simp
    exact ⟨Below.refl _ _, rfl⟩
  refine wpL_det ?_
  apply Exists.intro
  refine ⟨?_, ?_⟩
  · intro vs w' hC hk
    (try simp [Know.add, depOn, Region.binds] at hk)
    go_simp
    exact ⟨Below.refl _ _, rfl⟩
  refine wpL_det ?_
  apply Exists.intro
  refine ⟨?_, ?_⟩
  · intro vs w' hC hk
    (try simp [Know.add, depOn, Region.binds] at hk)
    go_simp
    exact ⟨Below.refl _ _, rfl⟩
  refine wpL_det ?_
  apply Exists.intro
  refine ⟨?_, ?_⟩
  · intro vs w' hC hk
    (try simp [Know.add, depOn, Region.binds] at hk)
    go_simp
    refine (RR.out _).mono ?_
    rintro e w'' ⟨rfl, hb⟩
    first | exact ⟨rfl, hb⟩ | exact ⟨_, rfl, hb, rfl⟩
  refine wpL_det ?_
  apply Exists.intro
  refine ⟨?_, ?_⟩
  · intro vs w' hC hk
    (try simp [Know.add, depOn, Region.binds] at hk)
    go_simp
    exact ⟨Below.refl _ _, rfl⟩
  refine wpL_det ?_
  apply Exists.intro
  refine ⟨?_, ?_⟩
  · intro vs w' hC hk
    (try simp [Know.add, depOn, Region.binds] at hk)
    go_simp
    exact ⟨Below.refl _ _, rfl⟩
  refine wpL_det ?_
  apply Exists.intro
  refine ⟨?_, ?_⟩
  · intro vs w' hC hk
    (try simp [Know.add, depOn, Region.binds] at hk)
    go_simp
    exact ⟨Below.refl _ _, rfl⟩
  refine wpL_det ?_
  apply Exists.intro
  refine ⟨?_, ?_⟩
  · intro vs w' hC hk
    (try simp [Know.add, depOn, Region.binds] at hk)
    go_simp
    refine (R6.out _).mono ?_
    rintro e w'' ⟨rfl, hb⟩
    first | exact ⟨rfl, hb⟩ | exact ⟨_, rfl, hb, rfl⟩
  refine wpL_det ?_
  apply Exists.intro
  refine ⟨?_, ?_⟩
  · intro vs w' hC hk
    (try simp [Know.add, depOn, Region.binds] at hk)
    go_simp
    exact ⟨Below.refl _ _, rfl⟩
  refine wpL_det ?_
  apply Exists.intro
  refine ⟨?_, ?_⟩
  · intro vs w' hC hk
    (try simp [Know.add, depOn, Region.binds] at hk)
    go_simp
    exact ⟨Below.refl _ _, rfl⟩
  refine wpL_det ?_
  apply Exists.intro
  refine ⟨?_, ?_⟩
  · intro vs w' hC hk
    (try simp [Know.add, depOn, Region.binds] at hk)
    go_simp
    exact ⟨Below.refl _ _, rfl⟩
  refine wpL_det ?_
  apply Exists.intro
  refine ⟨?_, ?_⟩
  · intro vs w' hC hk
    (try simp [Know.add, depOn, Region.binds] at hk)
    go_simp
    exact ⟨Below.refl _ _, rfl⟩
  refine wpL_det ?_
  apply Exists.intro
  refine ⟨?_, ?_⟩
  · intro vs w' hC hk
    (try simp [Know.add, depOn, Region.binds] at hk)
    go_simp
    exact ⟨Below.refl _ _, rfl⟩
  refine wpL_det ?_
  apply Exists.intro
  refine ⟨?_, ?_⟩
  · intro vs w' hC hk
    (try simp [Know.add, depOn, Region.binds] at hk)
    go_simp
    exact ⟨Below.refl _ _, rfl⟩
  refine wpL_det ?_
  apply Exists.intro
  refine ⟨?_, ?_⟩
  · intro vs w' hC hk
    (try simp [Know.add, depOn, Region.binds] at hk)
    go_simp
    exact ⟨Below.refl _ _, rfl⟩
  refine wpL_det ?_
  apply Exists.intro
  refine ⟨?_, ?_⟩
  · intro vs w' hC hk
    (try simp [Know.add, depOn, Region.binds] at hk)
    go_simp
    exact ⟨Below.refl _ _, rfl⟩
  refine wpL_det ?_
  apply Exists.intro
  refine ⟨?_, ?_⟩
  · intro vs w' hC hk
    (try simp [Know.add, depOn, Region.binds] at hk)
    go_simp
    exact ⟨Below.refl _ _, rfl⟩
  refine wpL_det ?_
  refine ⟨.bool true, ?_, ?_⟩
  · intro vs w' hC hk
    (try simp [Know.add, depOn, Region.binds] at hk)
    go_simp
    have s2 := S2.out w'
    refine Calls.mono s2 ?_
    rintro e w'' ⟨rfl, hb⟩
    exact ⟨rfl, hb⟩
  refine wpL_det ?_
  apply Exists.intro
  refine ⟨?_, ?_⟩
  · intro vs w' hC hk
    (try simp [Know.add, depOn, Region.binds] at hk)
    go_simp
    exact ⟨Below.refl _ _, rfl⟩
  refine wpL_det ?_
  apply Exists.intro
  refine ⟨?_, ?_⟩
  · intro vs w' hC hk
    (try simp [Know.add, depOn, Region.binds] at hk)
    go_simp
    exact ⟨Below.refl _ _, rfl⟩
  refine wpL_det ?_
  apply Exists.intro
  refine ⟨?_, ?_⟩
  · intro vs w' hC hk
    (try simp [Know.add, depOn, Region.binds] at hk)
    go_simp
    exact ⟨Below.refl _ _, rfl⟩
  refine wpL_det ?_
  apply Exists.intro
  refine ⟨?_, ?_⟩
  · intro vs w' hC hk
    (try simp [Know.add, depOn, Region.binds] at hk)
    go_simp
    exact ⟨Below.refl _ _, rfl⟩
  refine wpL_det ?_
  apply Exists.intro
  refine ⟨?_, ?_⟩
  · intro vs w' hC hk
    (try simp [Know.add, depOn, Region.binds] at hk)
    go_simp
    exact ⟨Below.refl _ _, rfl⟩
  refine wpL_det ?_
  apply Exists.intro
  refine ⟨?_, ?_⟩
  · intro vs w' hC hk
    (try simp [Know.add, depOn, Region.binds] at hk)
    go_simp
    exact ⟨Below.refl _ _, rfl⟩
  refine wpL_det ?_
  refine ⟨.bool false, ?_, ?_⟩
  · intro vs w' hC hk
    (try simp [Know.add, depOn, Region.binds] at hk)
    go_simp
    have s2 := S6.out w'
    refine Calls.mono s2 ?_
    rintro e w'' ⟨rfl, hb⟩
    exact ⟨rfl, hb⟩
  refine wpL_det ?_
  apply Exists.intro
  refine ⟨?_, ?_⟩
  · intro vs w' hC hk
    (try simp [Know.add, depOn, Region.binds] at hk)
    go_simp
    exact ⟨Below.refl _ _, rfl⟩
  refine wpL_det ?_
  apply Exists.intro
  refine ⟨?_, ?_⟩
  · intro vs w' hC hk
    (try simp [Know.add, depOn, Region.binds] at hk)
    go_simp
    exact ⟨Below.refl _ _, rfl⟩
  refine wpL_det ?_
  apply Exists.intro
  refine ⟨?_, ?_⟩
  · intro vs w' hC hk
    (try simp [Know.add, depOn, Region.binds] at hk)
    go_simp
    exact ⟨Below.refl _ _, rfl⟩
  refine wpL_nil ?_
  intro vs w' hC hk
  have h65 : vs 65 = .bool true := hk.2 (by kernel_rfl)
  clear hk
  go_wp2_with fail
  refine put_ret (s := 123) rfl ?_ (by decide) ?_ h65 ⟨rfl, below_step PB.out hC⟩
  · simp only [put_sizeF]; rfl
  · simp only [put_defersF]
end Go.Proofs.Ytjkiofgllmjkcaa.G
