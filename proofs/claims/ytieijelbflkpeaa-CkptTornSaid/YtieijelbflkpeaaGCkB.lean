/- The best of two sectors. -/
import Derived.Test.YtieijelbflkpeaaGCkR2
import Derived.Test.YtieijelbflkpeaaGCkS
import Derived.Test.YtieijelbflkpeaaGCkC
namespace Go.Proofs.Ytieijelbflkpeaa.G
open Go.RowKit Go.Proofs.Ytieijelbflkpeaa.CrcPlain Go.Proofs.Ytieijelbflkpeaa.WordPlain Go.Proofs.Ytieijelbflkpeaa.Loose
set_option linter.unusedVariables false
set_option linter.unusedSimpArgs false

/-- is the second one taken? the best one; what is wrong -/
def bestY (s t : ByteArray) : Prop := decOk t ∧ (¬ decOk s ∨ (decC s).gen < (decC t).gen)
instance (s t : ByteArray) : Decidable (bestY s t) := by unfold bestY; infer_instance
def bestC (s t : ByteArray) : Ck := if bestY s t then decC t else decC s
def bestI (s t : ByteArray) : Int := if bestY s t then 1 else 0
def bestE (s t : ByteArray) : Int := if decOk s ∨ decOk t then 0 else 5

/-- a row that holds no such number is laid anew -/
theorem Sl.row {w : World} {v : Value} {l : List Int} (h : Sl w v l) {A : Nat} {ty : TypeId} {cs : Array Value} (hA : w.heap[A]? = some (.cells #[.int .u64 0, .int .u32 0, .int .u64 0, .int .u64 0, .slice none 0 0, .slice none 0 0] ty (0, 0))) : Sl (w.setRow A cs) v l := by
  rcases h with h | ⟨h0, b, off, cap, hv, hc, hx⟩
  · exact Or.inl h
  · refine Or.inr ⟨h0, b, off, cap, hv, hc, fun i hi => ?_⟩
    have h1 := hx i hi
    have hne : b ≠ A := by
      intro e
      subst e
      rw [cell_of_row _ _ _ _ _ _ hA] at h1
      obtain ⟨h6, h7⟩ := Array.getElem?_eq_some_iff.1 h1
      generalize off + i = j at h6 h7
      have h6' : j < 6 := h6
      match j, h6' with
      | 0, _ => cases h7
      | 1, _ => cases h7
      | 2, _ => cases h7
      | 3, _ => cases h7
      | 4, _ => cases h7
      | 5, _ => cases h7
    rw [World.grownBy.cell_far (grown_row w A cs) ⟨b, off + i, none⟩ (block_lt_of_cell h1) (by intro e; exact hne (Option.some.inj e))]
    exact h1

theorem best_cases (s t : ByteArray) :
    (decE s = 5 ∧ decE t = 5 ∧ bestC s t = noCk ∧ bestI s t = 0 ∧ bestE s t = 5) ∨
    (decE s = 5 ∧ decE t = 0 ∧ bestC s t = decC t ∧ bestI s t = 1 ∧ bestE s t = 0) ∨
    (decE s = 0 ∧ decE t = 5 ∧ bestC s t = decC s ∧ bestI s t = 0 ∧ bestE s t = 0) ∨
    (decE s = 0 ∧ decE t = 0 ∧ ((decC s).gen : Int) < ((decC t).gen : Int) ∧ bestC s t = decC t ∧ bestI s t = 1 ∧ bestE s t = 0) ∨
    (decE s = 0 ∧ decE t = 0 ∧ ¬ ((decC s).gen : Int) < ((decC t).gen : Int) ∧ bestC s t = decC s ∧ bestI s t = 0 ∧ bestE s t = 0) := by
  unfold bestC bestI bestE bestY decE
  by_cases hs : decOk s <;> by_cases ht : decOk t
  · by_cases hg : (decC s).gen < (decC t).gen
    · refine Or.inr (Or.inr (Or.inr (Or.inl ?_)))
      simp [hs, ht, hg]
    · refine Or.inr (Or.inr (Or.inr (Or.inr ?_)))
      simp [hs, ht, hg]
  · refine Or.inr (Or.inr (Or.inl ?_)); simp [hs, ht]
  · refine Or.inr (Or.inl ?_); simp [hs, ht]
  · refine Or.inl ?_
    simp [hs, ht, decC]

theorem bresults (tmps : Array Value) (A : Nat) (a0 a1 a2 a3 a4 a5 : Value) (x y : Int) (W : World) (h4 : tmps[4]? = some (.pointer (some ⟨A, 0, none⟩))) (h5 : tmps[5]? = some (.int .i64 x)) (h6 : tmps[6]? = some (.int .i64 y))
    (hc : W.heap[A]? = some (.cells #[a0, a1, a2, a3, a4, a5] 26 (0, 0))) :
    (results Try.f15 tmps).run Try.prog W = .ok (.tuple #[.agg #[a0, a1, a2, a3, a4, a5], .int .i64 x, .int .i64 y]) W := by
  have c0 := (cell_of_row _ _ 0 _ _ _ hc).trans (show _ = some a0 from rfl)
  have c1 := (cell_of_row _ _ 1 _ _ _ hc).trans (show _ = some a1 from rfl)
  have c2 := (cell_of_row _ _ 2 _ _ _ hc).trans (show _ = some a2 from rfl)
  have c3 := (cell_of_row _ _ 3 _ _ _ hc).trans (show _ = some a3 from rfl)
  have c4 := (cell_of_row _ _ 4 _ _ _ hc).trans (show _ = some a4 from rfl)
  have c5 := (cell_of_row _ _ 5 _ _ _ hc).trans (show _ = some a5 from rfl)
  simp [results, Try.results15, go_sem, h4, h5, h6, c0, c1, c2, c3, c4, c5]

set_option maxRecDepth 100000 in
set_option maxHeartbeats 2000000 in
theorem Best_val (s t : ByteArray) (w : World) :
    Calls Try.prog 15 #[.string s, .string t] w fun e w' => (∃ vo vl, e = .returned (.tuple #[(bestC s t).val vo vl, .int .i64 (bestI s t), .int .i64 (bestE s t)]) ∧ Sl w' vo (bestC s t).order ∧ Sl w' vl (bestC s t).lens) ∧ Below w.heap.size w w' := by
  have hzc := zero_check
  have d1 := fun W => Decode_val s W
  have d2 := fun W => Decode_val t W
  have key := best_cases s t
  obtain ⟨c, hc⟩ : ∃ c, c = decC s := ⟨_, rfl⟩
  obtain ⟨d, hd⟩ : ∃ c, c = decC t := ⟨_, rfl⟩
  rw [← hc] at d1 key
  rw [← hd] at d2 key
  clear hc hd
  obtain ⟨g, ep, l, v, od, ln⟩ := c
  obtain ⟨g', ep', l', v', od', ln'⟩ := d
  simp only [Ck.val] at d1 d2 key
  have D1 := Lib.hid d1
  have D2 := Lib.hid d2
  clear d1 d2
  rcases key with ⟨e1, e2, e3, e4, e5⟩ | ⟨e1, e2, e3, e4, e5⟩ | ⟨e1, e2, e3, e4, e5⟩ | ⟨e1, e2, e6, e3, e4, e5⟩ | ⟨e1, e2, e6, e3, e4, e5⟩
  all_goals
    rw [e1] at D1
    rw [e2] at D2
    rw [e3, e4, e5]
    clear e1 e2 e3 e4 e5
    have hn0 := heap_alloc_new w (.cells #[.int .u64 0, .int .u32 0, .int .u64 0, .int .u64 0, .slice none 0 0, .slice none 0 0] 26)
    have hb0 := (Below.refl w.heap.size w).alloc (Nat.le_refl _) (.cells #[.int .u64 0, .int .u32 0, .int .u64 0, .int .u64 0, .slice none 0 0, .slice none 0 0] 26)
    have HN0 := Lib.hid hn0
    have HB0 := Lib.hid hb0
    clear hn0 hb0
    go_enter Try.func15, Try.ntmps15
    go_wp2_with fail
    refine (D1.out _).mono ?_; rintro e w1 ⟨⟨vo, vl, rfl, ho, hl⟩, hb1⟩
    obtain ⟨oa, cap, rfl⟩ := ho.form
    obtain ⟨oa2, cap2, rfl⟩ := hl.form
    obtain ⟨m1, hm1⟩ : ∃ m, m = od.length := ⟨_, rfl⟩
    obtain ⟨m2, hm2⟩ : ∃ m, m = ln.length := ⟨_, rfl⟩
    rw [← hm1] at ho ⊢
    rw [← hm2] at hl ⊢
    have hA1 := (hb1.block _ (lt_of_row HN0.out)).trans HN0.out
    have hbb1 := below_step HB0.out hb1
    have HO := Lib.hid ho
    have HL := Lib.hid hl
    clear ho hl hb1 hm1 hm2
    go_wp2_with fail
    have hn1 := heap_alloc_new w1 (.cells #[.int .u64 g, .int .u32 ep, .int .u64 l, .int .u64 v, .slice oa m1 cap, .slice oa2 m2 cap2] 26)
    have hbb2 := hbb1.alloc hbb1.size (.cells #[.int .u64 g, .int .u32 ep, .int .u64 l, .int .u64 v, .slice oa m1 cap, .slice oa2 m2 cap2] 26)
    have hA2 := (heap_alloc_old w1 (.cells #[.int .u64 g, .int .u32 ep, .int .u64 l, .int .u64 v, .slice oa m1 cap, .slice oa2 m2 cap2] 26) (lt_of_row hA1)).trans hA1
    have HO2 := Lib.hid (HO.out.below ((Below.refl _ _).alloc (Nat.le_refl _) (.cells #[.int .u64 g, .int .u32 ep, .int .u64 l, .int .u64 v, .slice oa m1 cap, .slice oa2 m2 cap2] 26)) (Nat.le_refl _))
    have HL2 := Lib.hid (HL.out.below ((Below.refl _ _).alloc (Nat.le_refl _) (.cells #[.int .u64 g, .int .u32 ep, .int .u64 l, .int .u64 v, .slice oa m1 cap, .slice oa2 m2 cap2] 26)) (Nat.le_refl _))
    have hlt1 := lt_of_row hA1
    clear hA1 hbb1 HO HL
    obtain ⟨X, hX⟩ : ∃ x, x = w1.heap.size := ⟨_, rfl⟩
    obtain ⟨W2, hW2⟩ : ∃ x, x = w1.alloc (.cells #[.int .u64 g, .int .u32 ep, .int .u64 l, .int .u64 v, .slice oa m1 cap, .slice oa2 m2 cap2] 26) := ⟨_, rfl⟩
    rw [← hW2] at hn1 hbb2 hA2 HO2 HL2 ⊢
    rw [← hX] at hn1 hlt1 ⊢
    clear hX hW2
    refine (D2.out _).mono ?_; rintro e w2 ⟨⟨uo, ul, rfl, go, gl⟩, hb2⟩
    obtain ⟨ob, cbp, rfl⟩ := go.form
    obtain ⟨ob2, cbp2, rfl⟩ := gl.form
    obtain ⟨n1, hm1⟩ : ∃ m, m = od'.length := ⟨_, rfl⟩
    obtain ⟨n2, hm2⟩ : ∃ m, m = ln'.length := ⟨_, rfl⟩
    rw [← hm1] at go ⊢
    rw [← hm2] at gl ⊢
    have hA3 := (hb2.block _ (lt_of_row hA2)).trans hA2
    have hX3 := (hb2.block _ (lt_of_row hn1)).trans hn1
    have hbb3 := below_step hbb2 hb2
    have ho3 := HO2.out.below hb2 (Nat.le_refl _)
    have hl3 := HL2.out.below hb2 (Nat.le_refl _)
    clear hn1 hbb2 hA2 HO2 HL2 hb2 hm1 hm2
    have hbn := (Below.refl w2.heap.size w2).alloc (Nat.le_refl _) (.cells #[.int .u64 g', .int .u32 ep', .int .u64 l', .int .u64 v', .slice ob n1 cbp, .slice ob2 n2 cbp2] 26)
    have hA4 := (hbn.block _ (lt_of_row hA3)).trans hA3
    have hX4 := (hbn.block _ (lt_of_row hX3)).trans hX3
    have hY4 := heap_alloc_new w2 (.cells #[.int .u64 g', .int .u32 ep', .int .u64 l', .int .u64 v', .slice ob n1 cbp, .slice ob2 n2 cbp2] 26)
    have hbb4 := below_step hbb3 hbn
    have ho4 := ho3.below hbn (Nat.le_refl _)
    have hl4 := hl3.below hbn (Nat.le_refl _)
    have go4 := go.below hbn (Nat.le_refl _)
    have gl4 := gl.below hbn (Nat.le_refl _)
    have hltY := lt_of_row hA3
    clear hA3 hX3 hbb3 ho3 hl3 go gl hbn
    have x0 := (cell_of_row _ _ 0 _ _ _ hX4).trans (show _ = some (.int .u64 g) from rfl)
    have x1 := (cell_of_row _ _ 1 _ _ _ hX4).trans (show _ = some (.int .u32 ep) from rfl)
    have x2 := (cell_of_row _ _ 2 _ _ _ hX4).trans (show _ = some (.int .u64 l) from rfl)
    have x3 := (cell_of_row _ _ 3 _ _ _ hX4).trans (show _ = some (.int .u64 v) from rfl)
    have x4 := (cell_of_row _ _ 4 _ _ _ hX4).trans (show _ = some (.slice oa m1 cap) from rfl)
    have x5 := (cell_of_row _ _ 5 _ _ _ hX4).trans (show _ = some (.slice oa2 m2 cap2) from rfl)
    have ONE1 : Hid ((#[Value.int .u64 g, .int .u32 ep, .int .u64 l, .int .u64 v, .slice oa m1 cap, .slice oa2 m2 cap2] : Array Value).all (·.oneCell') = true) := Lib.hid (by simp [Value.oneCell'])
    have ONE2 : Hid ((#[Value.int .u64 g', .int .u32 ep', .int .u64 l', .int .u64 v', .slice ob n1 cbp, .slice ob2 n2 cbp2] : Array Value).all (·.oneCell') = true) := Lib.hid (by simp [Value.oneCell'])
    have HA4 := Lib.hid hA4
    have HB4 := Lib.hid hbb4
    have HO4 := Lib.hid ho4
    have HL4 := Lib.hid hl4
    have GO4 := Lib.hid go4
    have GL4 := Lib.hid gl4
    clear hA4 hX4 hY4 hbb4 ho4 hl4 go4 gl4 hlt1 hltY
    go_wp2_with (first
      | (refine wpList_store_row rfl 26 _ _ rfl w.heap.size #[.int .u64 0, .int .u32 0, .int .u64 0, .int .u64 0, .slice none 0 0, .slice none 0 0] rfl rfl _ _ HA4.out (by kernel_rfl) rfl (by kernel_rfl) ?_)
      | (refine wpList_store_row rfl 26 _ _ rfl w.heap.size #[.int .u64 g, .int .u32 ep, .int .u64 l, .int .u64 v, .slice oa m1 cap, .slice oa2 m2 cap2] rfl rfl _ _ HA4.out (by kernel_rfl) rfl ONE1.out ?_)
      | (refine wpList_store_row rfl 26 _ _ rfl w.heap.size #[.int .u64 g', .int .u32 ep', .int .u64 l', .int .u64 v', .slice ob n1 cbp, .slice ob2 n2 cbp2] rfl rfl _ _ HA4.out (by kernel_rfl) rfl ONE2.out ?_))
    refine bodyPost_ret (bresults _ w.heap.size _ _ _ _ _ _ _ _ _ rfl rfl rfl (setRow_heap _ _ _ _ _ _ HA4.out)) rfl ?_
    have hfin := HB4.out.setRow (Nat.le_refl _)
    first
      | exact ⟨⟨_, _, rfl, Or.inl ⟨rfl, none, 0, rfl, fun _ => rfl⟩, Or.inl ⟨rfl, none, 0, rfl, fun _ => rfl⟩⟩, hfin _⟩
      | exact ⟨⟨_, _, rfl, Sl.row HO4.out HA4.out, Sl.row HL4.out HA4.out⟩, hfin _⟩
      | exact ⟨⟨_, _, rfl, Sl.row GO4.out HA4.out, Sl.row GL4.out HA4.out⟩, hfin _⟩

theorem rbresults (tmps : Array Value) (A : Nat) (a0 a1 a2 a3 a4 a5 : Value) (x y : Int) (W : World) (h4 : tmps[4]? = some (.pointer (some ⟨A, 0, none⟩))) (h5 : tmps[5]? = some (.int .i64 x)) (h6 : tmps[6]? = some (.int .i64 y))
    (hc : W.heap[A]? = some (.cells #[a0, a1, a2, a3, a4, a5] 32 (0, 0))) :
    (results Try.f16 tmps).run Try.prog W = .ok (.tuple #[.agg #[a0, a1, a2, a3, a4, a5], .int .i64 x, .int .i64 y]) W := by
  have c0 := (cell_of_row _ _ 0 _ _ _ hc).trans (show _ = some a0 from rfl)
  have c1 := (cell_of_row _ _ 1 _ _ _ hc).trans (show _ = some a1 from rfl)
  have c2 := (cell_of_row _ _ 2 _ _ _ hc).trans (show _ = some a2 from rfl)
  have c3 := (cell_of_row _ _ 3 _ _ _ hc).trans (show _ = some a3 from rfl)
  have c4 := (cell_of_row _ _ 4 _ _ _ hc).trans (show _ = some a4 from rfl)
  have c5 := (cell_of_row _ _ 5 _ _ _ hc).trans (show _ = some a5 from rfl)
  simp [results, Try.results16, go_sem, h4, h5, h6, c0, c1, c2, c3, c4, c5]

set_option maxRecDepth 100000 in
set_option maxHeartbeats 2000000 in
theorem rBest_val (s t : ByteArray) (w : World) (hs : s.size ≤ 140737488351232) (ht : t.size ≤ 140737488351232) :
    Calls Try.prog 16 #[.string s, .string t] w fun e w' => (∃ vo vl, e = .returned (.tuple #[(bestC s t).val vo vl, .int .i64 (bestI s t), .int .i64 (bestE s t)]) ∧ Sl w' vo (bestC s t).order ∧ Sl w' vl (bestC s t).lens) ∧ Below w.heap.size w w' := by
  have hzc := zero_rcheck
  have d1 := fun W => rDecode_val s W hs
  have d2 := fun W => rDecode_val t W ht
  have key := best_cases s t
  obtain ⟨c, hc⟩ : ∃ c, c = decC s := ⟨_, rfl⟩
  obtain ⟨d, hd⟩ : ∃ c, c = decC t := ⟨_, rfl⟩
  rw [← hc] at d1 key
  rw [← hd] at d2 key
  clear hc hd
  obtain ⟨g, ep, l, v, od, ln⟩ := c
  obtain ⟨g', ep', l', v', od', ln'⟩ := d
  simp only [Ck.val] at d1 d2 key
  have D1 := Lib.hid d1
  have D2 := Lib.hid d2
  clear d1 d2
  rcases key with ⟨e1, e2, e3, e4, e5⟩ | ⟨e1, e2, e3, e4, e5⟩ | ⟨e1, e2, e3, e4, e5⟩ | ⟨e1, e2, e6, e3, e4, e5⟩ | ⟨e1, e2, e6, e3, e4, e5⟩
  all_goals
    rw [e1] at D1
    rw [e2] at D2
    rw [e3, e4, e5]
    clear e1 e2 e3 e4 e5
    have hn0 := heap_alloc_new w (.cells #[.int .u64 0, .int .u32 0, .int .u64 0, .int .u64 0, .slice none 0 0, .slice none 0 0] 32)
    have hb0 := (Below.refl w.heap.size w).alloc (Nat.le_refl _) (.cells #[.int .u64 0, .int .u32 0, .int .u64 0, .int .u64 0, .slice none 0 0, .slice none 0 0] 32)
    have HN0 := Lib.hid hn0
    have HB0 := Lib.hid hb0
    clear hn0 hb0
    go_enter Try.func16, Try.ntmps16
    go_wp2_with fail
    refine (D1.out _).mono ?_; rintro e w1 ⟨⟨vo, vl, rfl, ho, hl⟩, hb1⟩
    obtain ⟨oa, cap, rfl⟩ := ho.form
    obtain ⟨oa2, cap2, rfl⟩ := hl.form
    obtain ⟨m1, hm1⟩ : ∃ m, m = od.length := ⟨_, rfl⟩
    obtain ⟨m2, hm2⟩ : ∃ m, m = ln.length := ⟨_, rfl⟩
    rw [← hm1] at ho ⊢
    rw [← hm2] at hl ⊢
    have hA1 := (hb1.block _ (lt_of_row HN0.out)).trans HN0.out
    have hbb1 := below_step HB0.out hb1
    have HO := Lib.hid ho
    have HL := Lib.hid hl
    clear ho hl hb1 hm1 hm2
    go_wp2_with fail
    have hn1 := heap_alloc_new w1 (.cells #[.int .u64 g, .int .u32 ep, .int .u64 l, .int .u64 v, .slice oa m1 cap, .slice oa2 m2 cap2] 32)
    have hbb2 := hbb1.alloc hbb1.size (.cells #[.int .u64 g, .int .u32 ep, .int .u64 l, .int .u64 v, .slice oa m1 cap, .slice oa2 m2 cap2] 32)
    have hA2 := (heap_alloc_old w1 (.cells #[.int .u64 g, .int .u32 ep, .int .u64 l, .int .u64 v, .slice oa m1 cap, .slice oa2 m2 cap2] 32) (lt_of_row hA1)).trans hA1
    have HO2 := Lib.hid (HO.out.below ((Below.refl _ _).alloc (Nat.le_refl _) (.cells #[.int .u64 g, .int .u32 ep, .int .u64 l, .int .u64 v, .slice oa m1 cap, .slice oa2 m2 cap2] 32)) (Nat.le_refl _))
    have HL2 := Lib.hid (HL.out.below ((Below.refl _ _).alloc (Nat.le_refl _) (.cells #[.int .u64 g, .int .u32 ep, .int .u64 l, .int .u64 v, .slice oa m1 cap, .slice oa2 m2 cap2] 32)) (Nat.le_refl _))
    have hlt1 := lt_of_row hA1
    clear hA1 hbb1 HO HL
    obtain ⟨X, hX⟩ : ∃ x, x = w1.heap.size := ⟨_, rfl⟩
    obtain ⟨W2, hW2⟩ : ∃ x, x = w1.alloc (.cells #[.int .u64 g, .int .u32 ep, .int .u64 l, .int .u64 v, .slice oa m1 cap, .slice oa2 m2 cap2] 32) := ⟨_, rfl⟩
    rw [← hW2] at hn1 hbb2 hA2 HO2 HL2 ⊢
    rw [← hX] at hn1 hlt1 ⊢
    clear hX hW2
    refine (D2.out _).mono ?_; rintro e w2 ⟨⟨uo, ul, rfl, go, gl⟩, hb2⟩
    obtain ⟨ob, cbp, rfl⟩ := go.form
    obtain ⟨ob2, cbp2, rfl⟩ := gl.form
    obtain ⟨n1, hm1⟩ : ∃ m, m = od'.length := ⟨_, rfl⟩
    obtain ⟨n2, hm2⟩ : ∃ m, m = ln'.length := ⟨_, rfl⟩
    rw [← hm1] at go ⊢
    rw [← hm2] at gl ⊢
    have hA3 := (hb2.block _ (lt_of_row hA2)).trans hA2
    have hX3 := (hb2.block _ (lt_of_row hn1)).trans hn1
    have hbb3 := below_step hbb2 hb2
    have ho3 := HO2.out.below hb2 (Nat.le_refl _)
    have hl3 := HL2.out.below hb2 (Nat.le_refl _)
    clear hn1 hbb2 hA2 HO2 HL2 hb2 hm1 hm2
    have hbn := (Below.refl w2.heap.size w2).alloc (Nat.le_refl _) (.cells #[.int .u64 g', .int .u32 ep', .int .u64 l', .int .u64 v', .slice ob n1 cbp, .slice ob2 n2 cbp2] 32)
    have hA4 := (hbn.block _ (lt_of_row hA3)).trans hA3
    have hX4 := (hbn.block _ (lt_of_row hX3)).trans hX3
    have hY4 := heap_alloc_new w2 (.cells #[.int .u64 g', .int .u32 ep', .int .u64 l', .int .u64 v', .slice ob n1 cbp, .slice ob2 n2 cbp2] 32)
    have hbb4 := below_step hbb3 hbn
    have ho4 := ho3.below hbn (Nat.le_refl _)
    have hl4 := hl3.below hbn (Nat.le_refl _)
    have go4 := go.below hbn (Nat.le_refl _)
    have gl4 := gl.below hbn (Nat.le_refl _)
    have hltY := lt_of_row hA3
    clear hA3 hX3 hbb3 ho3 hl3 go gl hbn
    have x0 := (cell_of_row _ _ 0 _ _ _ hX4).trans (show _ = some (.int .u64 g) from rfl)
    have x1 := (cell_of_row _ _ 1 _ _ _ hX4).trans (show _ = some (.int .u32 ep) from rfl)
    have x2 := (cell_of_row _ _ 2 _ _ _ hX4).trans (show _ = some (.int .u64 l) from rfl)
    have x3 := (cell_of_row _ _ 3 _ _ _ hX4).trans (show _ = some (.int .u64 v) from rfl)
    have x4 := (cell_of_row _ _ 4 _ _ _ hX4).trans (show _ = some (.slice oa m1 cap) from rfl)
    have x5 := (cell_of_row _ _ 5 _ _ _ hX4).trans (show _ = some (.slice oa2 m2 cap2) from rfl)
    have ONE1 : Hid ((#[Value.int .u64 g, .int .u32 ep, .int .u64 l, .int .u64 v, .slice oa m1 cap, .slice oa2 m2 cap2] : Array Value).all (·.oneCell') = true) := Lib.hid (by simp [Value.oneCell'])
    have ONE2 : Hid ((#[Value.int .u64 g', .int .u32 ep', .int .u64 l', .int .u64 v', .slice ob n1 cbp, .slice ob2 n2 cbp2] : Array Value).all (·.oneCell') = true) := Lib.hid (by simp [Value.oneCell'])
    have HA4 := Lib.hid hA4
    have HB4 := Lib.hid hbb4
    have HO4 := Lib.hid ho4
    have HL4 := Lib.hid hl4
    have GO4 := Lib.hid go4
    have GL4 := Lib.hid gl4
    clear hA4 hX4 hY4 hbb4 ho4 hl4 go4 gl4 hlt1 hltY
    go_wp2_with (first
      | (refine wpList_store_row rfl 32 _ _ rfl w.heap.size #[.int .u64 0, .int .u32 0, .int .u64 0, .int .u64 0, .slice none 0 0, .slice none 0 0] rfl rfl _ _ HA4.out (by kernel_rfl) rfl (by kernel_rfl) ?_)
      | (refine wpList_store_row rfl 32 _ _ rfl w.heap.size #[.int .u64 g, .int .u32 ep, .int .u64 l, .int .u64 v, .slice oa m1 cap, .slice oa2 m2 cap2] rfl rfl _ _ HA4.out (by kernel_rfl) rfl ONE1.out ?_)
      | (refine wpList_store_row rfl 32 _ _ rfl w.heap.size #[.int .u64 g', .int .u32 ep', .int .u64 l', .int .u64 v', .slice ob n1 cbp, .slice ob2 n2 cbp2] rfl rfl _ _ HA4.out (by kernel_rfl) rfl ONE2.out ?_))
    refine bodyPost_ret (rbresults _ w.heap.size _ _ _ _ _ _ _ _ _ rfl rfl rfl (setRow_heap _ _ _ _ _ _ HA4.out)) rfl ?_
    have hfin := HB4.out.setRow (Nat.le_refl _)
    first
      | exact ⟨⟨_, _, rfl, Or.inl ⟨rfl, none, 0, rfl, fun _ => rfl⟩, Or.inl ⟨rfl, none, 0, rfl, fun _ => rfl⟩⟩, hfin _⟩
      | exact ⟨⟨_, _, rfl, Sl.row HO4.out HA4.out, Sl.row HL4.out HA4.out⟩, hfin _⟩
      | exact ⟨⟨_, _, rfl, Sl.row GO4.out HA4.out, Sl.row GL4.out HA4.out⟩, hfin _⟩
end Go.Proofs.Ytieijelbflkpeaa.G
