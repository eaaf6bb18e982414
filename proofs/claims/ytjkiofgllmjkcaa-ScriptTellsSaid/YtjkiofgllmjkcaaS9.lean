/- The deferred closure of script.Decode; what the named results read. -/
import Derived.Test.YtjkiofgllmjkcaaS8
namespace Go.Proofs.Ytjkiofgllmjkcaa.G
open Go.RowKit Go.Proofs.Ytjkiofgllmjkcaa.WordPlain
set_option linter.unusedVariables false
set_option linter.unusedSimpArgs false

theorem setRow_below {B : Nat} {w W : World} (h : Below B w W) {g : Nat} (hg : B ≤ g) (cs : Array Value) : Below B w (W.setRow g cs) := below_setRow h hg cs

set_option maxHeartbeats 2000000 in
set_option maxRecDepth 100000 in
/-- a frame that panics so: the results are laid anew -/
theorem close_panicking (C E : Nat) (v : Value) (x y : Int) (older : List PanicEntry) (w : World) (hne : C ≠ E) (hc : w.heap[C]? = some (.cells #[v] 22 (0, 0))) (he : w.heap[E]? = some (.cells #[.int .i64 x] 32 (0, 0))) (B : Nat) (hC : B ≤ C) (hE : B ≤ E) (hB : B ≤ w.heap.size) :
    CallsD Try.prog 26 #[.pointer (some ⟨C, 0, none⟩), .pointer (some ⟨E, 0, none⟩)] (.panicking ({ v := wrongS y, recovered := false } :: older)) w fun e u' w' =>
      e = .returned (.tuple #[]) ∧ u' = .panicking ({ v := wrongS y, recovered := true } :: older) ∧ Below B w w' ∧
      w'.heap[C]? = some (.cells #[.slice none 0 0] 22 (0, 0)) ∧
      w'.heap[E]? = some (.cells #[.int .i64 y] 32 (0, 0)) := by
  have hta : ∀ W : World, (Instr.typeAssert (wrongS y) 20 64 true).run Try.prog W = .ok (.tuple #[.agg #[.int .i64 y], .bool true]) W := fun _ => by kernel_rfl
  obtain ⟨p, hp⟩ : ∃ p, p = wrongS y := ⟨_, rfl⟩
  rw [← hp] at hta ⊢
  clear hp
  refine callsD_of_wpS Try.func26 rfl fun c₀ cs hu => ?_
  apply wpS_seq
  apply wpS_region
  simp [wpOpsS, go_sem, recoverD, hu, hta, Try.ntmps26, Exit.thenS]
  have hF := heap_alloc_new w (.cells #[.int .i64 y] 64)
  have hc' : (w.alloc (.cells #[.int .i64 y] 64)).heap[C]? = some (.cells #[v] 22 (0, 0)) := (heap_alloc_old _ _ (lt_of_rowS hc)).trans hc
  have he' : (w.alloc (.cells #[.int .i64 y] 64)).heap[E]? = some (.cells #[.int .i64 x] 32 (0, 0)) := (heap_alloc_old _ _ (lt_of_rowS he)).trans he
  have hb' : Below B w (w.alloc (.cells #[.int .i64 y] 64)) := (Below.refl _ _).alloc hB _
  have hFC : w.heap.size ≠ C := by have := lt_of_rowS hc; omega
  have hFE : w.heap.size ≠ E := by have := lt_of_rowS he; omega
  obtain ⟨F, hFd⟩ : ∃ F, F = w.heap.size := ⟨_, rfl⟩
  obtain ⟨W, hW⟩ : ∃ W, W = w.alloc (.cells #[.int .i64 y] 64) := ⟨_, rfl⟩
  rw [← hW] at hF hc' he' hb' ⊢
  rw [← hFd] at hF hFC hFE ⊢
  have ht : (#[.pointer (some ⟨C, 0, none⟩), .pointer (some ⟨E, 0, none⟩)] ++ (((((((Array.replicate 10 undef).setIfInBounds 3 p).setIfInBounds 4 (Value.tuple #[Value.agg #[Value.int .i64 y], Value.bool true])).setIfInBounds 2 (Value.tuple #[Value.agg #[Value.int .i64 y], Value.bool true])).setIfInBounds 5 (Value.agg #[Value.int .i64 y])).setIfInBounds 6 (Value.bool true)).setIfInBounds 0 (Value.pointer (some ⟨F, 0, none⟩))).setIfInBounds 1 (Value.bool true) : Array Value) =
      #[.pointer (some ⟨C, 0, none⟩), .pointer (some ⟨E, 0, none⟩), .pointer (some ⟨F, 0, none⟩), .bool true, Value.tuple #[Value.agg #[Value.int .i64 y], Value.bool true], p, Value.tuple #[Value.agg #[Value.int .i64 y], Value.bool true], Value.agg #[Value.int .i64 y], .bool true, undef, undef, undef] := by
    simp [show Array.replicate 10 undef = #[undef, undef, undef, undef, undef, undef, undef, undef, undef, undef] from rfl]
  rw [ht]
  clear ht hu hta hW hFd hc he hB
  refine wpS_of_wp ?_
  go_wp2_with fail
  refine Go.wp_region_held_drew (S := fun V => V.heap[F]? = W.heap[F]?) (by kernel_rfl) rfl (fun _ => ?_)
  obtain ⟨V, hV⟩ : ∃ V, V = W.drew := ⟨_, rfl⟩
  have hVF : V.heap[F]? = W.heap[F]? := by rw [hV]; rfl
  have hVC : V.heap[C]? = some (.cells #[v] 22 (0, 0)) := by rw [hV]; exact hc'
  have hVE : V.heap[E]? = some (.cells #[.int .i64 x] 32 (0, 0)) := by rw [hV]; exact he'
  have hVb : Below B w V := by rw [hV]; exact hb'.trans ⟨rfl, rfl, rfl, Nat.le_refl _, fun _ _ => rfl⟩
  rw [← hV]
  clear hV hb' hc' he'
  have SF : ∀ U : World, U.heap[F]? = W.heap[F]? → U.cell? ⟨F, 0, none⟩ = some (.int .i64 y) := fun U h => (cell_of_row _ _ 0 _ _ _ (h.trans hF)).trans rfl
  refine wpAnyH_take (i := 0) (v := .pointer (some ⟨F, 0, none⟩)) rfl (by kernel_rfl) ?_ ?_ (fun _ _ _ h => h) (Or.inl ⟨by first | kernel_rfl | rfl, ?_⟩) hVF ?_
  · kernel_rfl
  · kernel_rfl
  · intro V hV; go_simp
  refine wpAnyH_take (i := 1) (v := .int .i64 y) rfl (by kernel_rfl) ?_ ?_ (fun _ _ _ h => h) (Or.inl ⟨by first | kernel_rfl | rfl, ?_⟩) hVF ?_
  · kernel_rfl
  · kernel_rfl
  · intro V hV; go_simp
  clear SF
  have HVC := Lib.hid hVC
  have HVE := Lib.hid hVE
  have cC := (cell_of_row _ _ 0 _ _ _ hVC).trans (show _ = some v from rfl)
  have fC := frozen_of_row _ _ 0 _ _ hVC
  clear hVC hVE
  refine wpAnyH_ready (rs := [2]) (by kernel_rfl) (by simp) ?_
  refine AllReadyH.cons rfl (fun K hK => ?_) AllReadyH.nil
  go_simp
  have hVF2 : (V.setCell ⟨C, 0, none⟩ (.slice none 0 0)).heap[F]? = W.heap[F]? := (heap_setCell_other _ _ _ _ (by exact hFC)).trans hVF
  refine hK.out _ _ hVF2 (fun _ => ?_)
  clear hK K cC fC
  have hE2 : (V.setCell ⟨C, 0, none⟩ (.slice none 0 0)).heap[E]? = some (.cells #[.int .i64 x] 32 (0, 0)) := (heap_setCell_other _ _ _ _ (by exact (Ne.symm hne))).trans HVE.out
  have hC2 : (V.setCell ⟨C, 0, none⟩ (.slice none 0 0)).heap[C]? = some (.cells #[.slice none 0 0] 22 (0, 0)) := by rw [heap_setCell_same _ _ _ _ _ _ HVC.out]; rfl
  have hb2 := hVb.setCell (p := ⟨C, 0, none⟩) hC (.slice none 0 0)
  obtain ⟨V2, hV2⟩ : ∃ V2, V2 = V.setCell ⟨C, 0, none⟩ (.slice none 0 0) := ⟨_, rfl⟩
  rw [← hV2] at hVF2 hE2 hC2 hb2 ⊢
  clear hV2
  have HE2 := Lib.hid hE2
  have HC2 := Lib.hid hC2
  have cE := (cell_of_row _ _ 0 _ _ _ hE2).trans (show _ = some (.int .i64 x) from rfl)
  have fE := frozen_of_row _ _ 0 _ _ hE2
  clear hE2 hC2
  refine wpAnyH_ready (rs := [3]) (by kernel_rfl) (by simp) ?_
  refine AllReadyH.cons rfl (fun K hK => ?_) AllReadyH.nil
  go_simp
  refine hK.out _ _ ((heap_setCell_other _ _ _ _ (by exact hFE)).trans hVF2) (fun _ => ?_)
  clear hK K cE fE
  refine wpAnyH_done (by kernel_rfl) ?_ _
  (try go_wp2_with fail)
  refine ⟨rfl, _, rfl, .tuple #[], by rw [results_none rfl], rfl, rfl, hb2.setCell hE _, ?_, ?_⟩
  · rw [heap_setCell_other _ _ _ _ (by exact hne)]; exact HC2.out
  · rw [heap_setCell_same _ _ _ _ _ _ HE2.out]; rfl

set_option maxHeartbeats 2000000 in
/-- a frame that returns: nothing is done -/
theorem close_idle (C E : Nat) (w : World) :
    CallsD Try.prog 26 #[.pointer (some ⟨C, 0, none⟩), .pointer (some ⟨E, 0, none⟩)] .returning w fun e u' w' =>
      e = .returned (.tuple #[]) ∧ u' = .returning ∧ w' = w.alloc (.cells #[.int .i64 0] 64) := by
  have hta : ∀ W : World, (Instr.typeAssert .nilIface 20 64 true).run Try.prog W = .ok (.tuple #[.agg #[.int .i64 0], .bool false]) W := fun _ => by kernel_rfl
  refine callsD_of_wpS Try.func26 rfl fun c₀ cs hu => ?_
  apply wpS_seq
  apply wpS_region
  simp [wpOpsS, go_sem, recoverD, hu, hta, Try.ntmps26, Exit.thenS]
  have ht : (#[.pointer (some ⟨C, 0, none⟩), .pointer (some ⟨E, 0, none⟩)] ++ (((((((Array.replicate 10 undef).setIfInBounds 3 Value.nilIface).setIfInBounds 4 (Value.tuple #[Value.agg #[Value.int .i64 0], Value.bool false])).setIfInBounds 2 (Value.tuple #[Value.agg #[Value.int .i64 0], Value.bool false])).setIfInBounds 5 (Value.agg #[Value.int .i64 0])).setIfInBounds 6 (Value.bool false)).setIfInBounds 0 (Value.pointer (some ⟨w.heap.size, 0, none⟩))).setIfInBounds 1 (Value.bool false) : Array Value) =
      #[.pointer (some ⟨C, 0, none⟩), .pointer (some ⟨E, 0, none⟩), .pointer (some ⟨w.heap.size, 0, none⟩), .bool false, Value.tuple #[Value.agg #[Value.int .i64 0], Value.bool false], Value.nilIface, Value.tuple #[Value.agg #[Value.int .i64 0], Value.bool false], Value.agg #[Value.int .i64 0], .bool false, undef, undef, undef] := by
    simp [show Array.replicate 10 undef = #[undef, undef, undef, undef, undef, undef, undef, undef, undef, undef] from rfl]
  rw [ht]
  clear ht hta
  refine wpS_of_wp ?_
  go_wp2_with fail
  cases c₀
  refine ⟨rfl, _, rfl, .tuple #[], by rw [results_none rfl], rfl, hu, rfl⟩

/-- what the named results read when all is over -/
theorem results_two (tmps : Array Value) (C E : Nat) (v : Value) (x : Int) (W : World) (h2 : tmps[2]? = some (.pointer (some ⟨C, 0, none⟩))) (h3 : tmps[3]? = some (.pointer (some ⟨E, 0, none⟩)))
    (hc : W.heap[C]? = some (.cells #[v] 22 (0, 0))) (he : W.heap[E]? = some (.cells #[.int .i64 x] 32 (0, 0))) :
    (results Try.f13 tmps).run Try.prog W = .ok (.tuple #[v, .int .i64 x]) W := by
  have c0 := (cell_of_row _ _ 0 _ _ _ hc).trans (show _ = some v from rfl)
  have ce := (cell_of_row _ _ 0 _ _ _ he).trans (show _ = some (.int .i64 x) from rfl)
  simp [results, Try.results13, go_sem, h2, h3, c0, ce]

theorem door_wrong (tmps : Array Value) (C E : Nat) (v : Value) (x y : Int) (w W : World) (h2 : tmps[2]? = some (.pointer (some ⟨C, 0, none⟩))) (h3 : tmps[3]? = some (.pointer (some ⟨E, 0, none⟩))) (hne : C ≠ E)
    (hc : W.heap[C]? = some (.cells #[v] 22 (0, 0))) (he : W.heap[E]? = some (.cells #[.int .i64 x] 32 (0, 0))) (hC : w.heap.size ≤ C) (hE : w.heap.size ≤ E) (hb : Below w.heap.size w W) (R : Ending → World → Prop)
    (hR : ∀ w'', Below w.heap.size w w'' → R (.returned (.tuple #[.slice none 0 0, .int .i64 y])) w'') :
    Leaves Try.prog Try.f13 tmps R
      [{ target := .fn (.func 26) #[.pointer (some ⟨C, 0, none⟩), .pointer (some ⟨E, 0, none⟩)], args := #[] }] (.panicking [{ v := wrongS y, recovered := false }]) W := by
  refine leaves_cons (f := 26) (args := #[.pointer (some ⟨C, 0, none⟩), .pointer (some ⟨E, 0, none⟩)]) (by simp) (by simp [go_sem]) ?_
  refine (close_panicking C E v x y [] W hne hc he w.heap.size hC hE hb.size).mono ?_
  rintro e u' w'' ⟨rfl, rfl, hb2, hc2, he2⟩
  have hr := results_two tmps C E _ y w'' h2 h3 hc2 he2
  simp only [Leaves, settle]
  exact ⟨_, hr, hR _ (hb.trans hb2)⟩

theorem door_right (tmps : Array Value) (C E : Nat) (v : Value) (x : Int) (W : World) (R : Ending → World → Prop) (h2 : tmps[2]? = some (.pointer (some ⟨C, 0, none⟩))) (h3 : tmps[3]? = some (.pointer (some ⟨E, 0, none⟩)))
    (hc : W.heap[C]? = some (.cells #[v] 22 (0, 0))) (he : W.heap[E]? = some (.cells #[.int .i64 x] 32 (0, 0)))
    (hR : R (.returned (.tuple #[v, .int .i64 x])) (W.alloc (.cells #[.int .i64 0] 64))) :
    Leaves Try.prog Try.f13 tmps R [{ target := .fn (.func 26) #[.pointer (some ⟨C, 0, none⟩), .pointer (some ⟨E, 0, none⟩)], args := #[] }] .returning W := by
  refine leaves_cons (f := 26) (args := #[.pointer (some ⟨C, 0, none⟩), .pointer (some ⟨E, 0, none⟩)]) (by simp) (by simp [go_sem]) ?_
  refine (close_idle C E W).mono ?_
  rintro e u' w'' ⟨rfl, rfl, rfl⟩
  have hr := results_two tmps C E v x (W.alloc (.cells #[.int .i64 0] 64)) h2 h3 ((heap_alloc_old _ _ (lt_of_rowS hc)).trans hc) ((heap_alloc_old _ _ (lt_of_rowS he)).trans he)
  simp only [Leaves, settle]
  exact ⟨_, hr, hR⟩
end Go.Proofs.Ytjkiofgllmjkcaa.G
