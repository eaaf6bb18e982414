/- Decode of a sector. -/
import Derived.Test.YtieijelbflkpeaaGCkd
namespace Go.Proofs.Ytieijelbflkpeaa.G
open Go.RowKit Go.Proofs.Ytieijelbflkpeaa.CrcPlain Go.Proofs.Ytieijelbflkpeaa.WordPlain Go.Proofs.Ytieijelbflkpeaa.Loose
set_option linter.unusedVariables false
set_option linter.unusedSimpArgs false

/-- what the named results read when all is over -/
theorem results_two (tmps : Array Value) (C E : Nat) (a0 a1 a2 a3 a4 a5 : Value) (x : Int) (W : World) (h2 : tmps[2]? = some (.pointer (some ⟨C, 0, none⟩))) (h3 : tmps[3]? = some (.pointer (some ⟨E, 0, none⟩)))
    (hc : W.heap[C]? = some (.cells #[a0, a1, a2, a3, a4, a5] 26 (0, 0))) (he : W.heap[E]? = some (.cells #[.int .i64 x] 28 (0, 0))) :
    (results Try.f13 tmps).run Try.prog W = .ok (.tuple #[.agg #[a0, a1, a2, a3, a4, a5], .int .i64 x]) W := by
  have c0 := (cell_of_row _ _ 0 _ _ _ hc).trans (show _ = some a0 from rfl)
  have c1 := (cell_of_row _ _ 1 _ _ _ hc).trans (show _ = some a1 from rfl)
  have c2 := (cell_of_row _ _ 2 _ _ _ hc).trans (show _ = some a2 from rfl)
  have c3 := (cell_of_row _ _ 3 _ _ _ hc).trans (show _ = some a3 from rfl)
  have c4 := (cell_of_row _ _ 4 _ _ _ hc).trans (show _ = some a4 from rfl)
  have c5 := (cell_of_row _ _ 5 _ _ _ hc).trans (show _ = some a5 from rfl)
  have ce := (cell_of_row _ _ 0 _ _ _ he).trans (show _ = some (.int .i64 x) from rfl)
  have fz := frozen_of_row _ _ 0 _ _ hc
  simp [results, Try.results13, go_sem, h2, h3, c0, c1, c2, c3, c4, c5, ce]

theorem door_wrong (tmps : Array Value) (C E : Nat) (a0 a1 a2 a3 a4 a5 : Value) (x : Int) (w W : World) (h2 : tmps[2]? = some (.pointer (some ⟨C, 0, none⟩))) (h3 : tmps[3]? = some (.pointer (some ⟨E, 0, none⟩))) (hne : C ≠ E)
    (hc : W.heap[C]? = some (.cells #[a0, a1, a2, a3, a4, a5] 26 (0, 0))) (he : W.heap[E]? = some (.cells #[.int .i64 x] 28 (0, 0))) (hC : w.heap.size ≤ C) (hE : w.heap.size ≤ E) (hb : Below w.heap.size w W) (R : Ending → World → Prop)
    (hR : ∀ w'', Below w.heap.size w w'' → R (.returned (.tuple #[.agg #[.int .u64 0, .int .u32 0, .int .u64 0, .int .u64 0, .slice none 0 0, .slice none 0 0], .int .i64 5])) w'') :
    Leaves Try.prog Try.f13 tmps R
      [{ target := .fn (.func 28) #[.pointer (some ⟨C, 0, none⟩), .pointer (some ⟨E, 0, none⟩)], args := #[] }] (.panicking [{ v := wrongV, recovered := false }]) W := by
  refine leaves_cons (f := 28) (args := #[.pointer (some ⟨C, 0, none⟩), .pointer (some ⟨E, 0, none⟩)]) (by simp) (by simp [go_sem]) ?_
  refine (close_panicking C E a0 a1 a2 a3 a4 a5 x [] W hne hc he w.heap.size hC hE hb.size).mono ?_
  rintro e u' w'' ⟨rfl, rfl, hb2, hc2, he2⟩
  have hr := results_two tmps C E _ _ _ _ _ _ 5 w'' h2 h3 hc2 he2
  simp only [Leaves, settle]
  exact ⟨_, hr, hR _ (hb.trans hb2)⟩

theorem door_right (tmps : Array Value) (C E : Nat) (a0 a1 a2 a3 a4 a5 : Value) (x : Int) (w W : World) (R : Ending → World → Prop) (h2 : tmps[2]? = some (.pointer (some ⟨C, 0, none⟩))) (h3 : tmps[3]? = some (.pointer (some ⟨E, 0, none⟩)))
    (hc : W.heap[C]? = some (.cells #[a0, a1, a2, a3, a4, a5] 26 (0, 0))) (he : W.heap[E]? = some (.cells #[.int .i64 x] 28 (0, 0)))
    (hR : R (.returned (.tuple #[.agg #[a0, a1, a2, a3, a4, a5], .int .i64 x])) (W.alloc (.cells #[] 61))) :
    Leaves Try.prog Try.f13 tmps R [{ target := .fn (.func 28) #[.pointer (some ⟨C, 0, none⟩), .pointer (some ⟨E, 0, none⟩)], args := #[] }] .returning W := by
  refine leaves_cons (f := 28) (args := #[.pointer (some ⟨C, 0, none⟩), .pointer (some ⟨E, 0, none⟩)]) (by simp) (by simp [go_sem]) ?_
  refine (close_idle C E W 0 (Nat.zero_le _)).mono ?_
  rintro e u' w'' ⟨rfl, rfl, rfl⟩
  have hr := results_two tmps C E a0 a1 a2 a3 a4 a5 x (W.alloc (.cells #[] 61)) h2 h3 ((heap_alloc_old _ _ (lt_of_row hc)).trans hc) ((heap_alloc_old _ _ (lt_of_row he)).trans he)
  simp only [Leaves, settle]
  exact ⟨_, hr, hR⟩

theorem two_new (w : World) (o1 o2 : Obj) : ((w.alloc o1).alloc o2).heap[w.heap.size]? = some o1 ∧ ((w.alloc o1).alloc o2).heap[w.heap.size + 1]? = some o2 ∧ Below w.heap.size w ((w.alloc o1).alloc o2) ∧ ((w.alloc o1).alloc o2).heap.size = w.heap.size + 2 := by
  have hs : (w.alloc o1).heap.size = w.heap.size + 1 := by show (w.heap.push o1).size = _; rw [Array.size_push]
  have hn2 := heap_alloc_new (w.alloc o1) o2
  rw [hs] at hn2
  refine ⟨?_, hn2, ((Below.refl _ _).alloc (Nat.le_refl _) _).alloc (by rw [hs]; omega) _, ?_⟩
  · rw [heap_alloc_old _ _ (by rw [hs]; omega)]; exact heap_alloc_new w o1
  · show ((w.alloc o1).heap.push o2).size = _; rw [Array.size_push, hs]

set_option maxRecDepth 100000 in
theorem Decode_short (s : ByteArray) (w : World) (h : s.size ≠ 128) :
    Calls Try.prog 13 #[.string s] w fun e w' => e = .returned (.tuple #[.agg #[.int .u64 0, .int .u32 0, .int .u64 0, .int .u64 0, .slice none 0 0, .slice none 0 0], .int .i64 5]) ∧ Below w.heap.size w w' := by
  have hmf : ∀ (fn : Fn) (first cap : Array Value) (w : World), (Instr.makeFunc fn first cap).run Try.prog w = .ok (.func fn first cap) w := fun _ _ _ _ => rfl
  have q : ((s.size : Int) == 128) = false := beq_eq_false_iff_ne.2 (by omega)
  have hzc := zero_check
  clear h
  go_enter_defers Try.func13, Try.ntmps13
  go_wp2_with fail
  refine (must_false _).mono ?_; rintro e w1 ⟨rfl, rfl⟩
  go_wp2_with fail
  obtain ⟨n1, n2, n3, _⟩ := two_new w (.cells #[.int .u64 0, .int .u32 0, .int .u64 0, .int .u64 0, .slice none 0 0, .slice none 0 0] 26) (.cells #[.int .i64 0] 28)
  exact door_wrong _ w.heap.size (w.heap.size + 1) _ _ _ _ _ _ _ w _ rfl rfl (by omega) n1 n2 (by omega) (by omega) n3 _ (fun _ h => ⟨rfl, h⟩)

set_option maxRecDepth 100000 in
theorem Decode_many (s : ByteArray) (w : World) (n : UInt8) (h : s.size = 128) (hn : Hid (s[28]'(by omega) = n)) (h16 : 16 < n.toNat) :
    Calls Try.prog 13 #[.string s] w fun e w' => e = .returned (.tuple #[.agg #[.int .u64 0, .int .u32 0, .int .u64 0, .int .u64 0, .slice none 0 0, .slice none 0 0], .int .i64 5]) ∧ Below w.heap.size w w' := by
  have hmf : ∀ (fn : Fn) (first cap : Array Value) (w : World), (Instr.makeFunc fn first cap).run Try.prog w = .ok (.func fn first cap) w := fun _ _ _ _ => rfl
  have q : ((s.size : Int) == 128) = true := beq_iff_eq.2 (by omega)
  have q2 : decide ((n.toNat : Int) ≤ 16) = false := decide_eq_false (by omega)
  have q3 : wrap64 (n.toNat : Int) = (n.toNat : Int)   := IntWalk.wrap64_in _ (by have := n.toNat_lt; omega)
  have hsz : (28 : Int) < (s.size : Int) := by omega
  have hix : ∀ W : World, (Instr.index 9 (.string s) (.int .i64 28)).run Try.prog W = .ok (.int .u8 (n.toNat : Int)) W := by
    intro W
    rw [← hn.out]
    simp [go_sem, h]
  have hzc := zero_check
  clear hn h
  go_enter_defers Try.func13, Try.ntmps13
  go_wp2_with fail
  refine (must_true _).mono ?_; rintro e w1 ⟨rfl, rfl⟩
  go_wp2_with fail
  refine (must_false _).mono ?_; rintro e w1 ⟨rfl, rfl⟩
  go_wp2_with fail
  obtain ⟨n1, n2, n3, _⟩ := two_new w (.cells #[.int .u64 0, .int .u32 0, .int .u64 0, .int .u64 0, .slice none 0 0, .slice none 0 0] 26) (.cells #[.int .i64 0] 28)
  exact door_wrong _ w.heap.size (w.heap.size + 1) _ _ _ _ _ _ _ w _ rfl rfl (by omega) n1 n2 (by omega) (by omega) n3 _ (fun _ h => ⟨rfl, h⟩)

/-! the reading's loop -/
structure DI (w wr : World) (g ep l v : Nat) (ov lv : Value) (od ln : List Int) : Prop where
  c : wr.heap[w.heap.size]? = some (.cells #[.int .u64 g, .int .u32 ep, .int .u64 l, .int .u64 v, ov, lv] 26 (0, 0))
  e : wr.heap[w.heap.size + 1]? = some (.cells #[.int .i64 0] 28 (0, 0))
  bel : Below w.heap.size w wr
  o : wr.ownsRow (w.heap.size + 2) 3 1 ov od.length (od.map (Value.int .i64))
  l : wr.ownsRow (w.heap.size + 2) 3 1 lv ln.length (ln.map (Value.int .i64))
  ne : ∀ k, some k = ov.ownBlock → some k ≠ lv.ownBlock

theorem apart_of {a b : Option Nat} (h : ∀ k, some k = a → some k ≠ b) : a = none ∨ a ≠ b := by
  cases a with
  | none => exact Or.inl rfl
  | some k => exact Or.inr (h k rfl)

theorem own_ge {w : World} {base : Nat} {e : TypeId} {v : Value} {n : Nat} {xs : List Value} (h : w.ownsRow base e 1 v n xs) (k : Nat) (hk : some k = v.ownBlock) : base ≤ k ∧ k < w.heap.size := by
  rcases h.2 with ⟨rfl, _⟩ | ⟨b, cap, cur, rfl, hb, hh, _⟩
  · cases hk
  · cases hk; exact ⟨hb, lt_of_row hh⟩
theorem below_grown {B : Nat} {w w' : World} {row : Option Nat} (h : w.grownBy w' row) (hr : ∀ k, some k = row → B ≤ k) (hB : B ≤ w.heap.size) : Below B w w' :=
  ⟨h.os, h.tape, h.output, h.size, fun i hi => h.block i (by omega) (fun e => by have := hr i e; omega)⟩
theorem grown_below {w w' : World} (h : Below w.heap.size w w') : w.grownBy w' none := ⟨h.os, h.tape, h.output, h.size, fun i hi _ => h.block i hi⟩
theorem grown_set (w : World) (a : Addr) (u : Value) : w.grownBy (w.setCell a u) (some a.block) :=
  ⟨rfl, rfl, rfl, by simp, fun i _ hi => heap_setCell_other _ _ _ _ (fun e => hi (by rw [e]))⟩

theorem DI.pushO {w wr W1 w2 : World} {g ep l v : Nat} {ov lv : Value} {od ln : List Int} (h : DI w wr g ep l v ov lv od ln) (hb : Below wr.heap.size wr W1) (x : Int) (b cap : Nat)
    (hown : w2.ownsRow (w.heap.size + 2) 3 1 (.slice (some ⟨b, 0, none⟩) (od.length + 1) cap) (od.length + 1) (od.map (Value.int .i64) ++ [.int .i64 x])) (hg : W1.grownBy w2 ov.ownBlock) (hw : ov.ownBlock = some b ∨ b = W1.heap.size) :
    DI w (w2.setCell ⟨w.heap.size, 4, none⟩ (.slice (some ⟨b, 0, none⟩) (od.length + 1) cap)) g ep l v (.slice (some ⟨b, 0, none⟩) (od.length + 1) cap) lv (od ++ [x]) ln := by
  have hsz := hb.size
  have hC := lt_of_row h.c
  have hE := lt_of_row h.e
  have nC : ∀ k, k < w.heap.size + 2 → some k ≠ ov.ownBlock := fun k hk e => by have := (own_ge h.o k e).1; omega
  have bge : w.heap.size + 2 ≤ b := by
    rcases hw with hw | hw
    · exact (own_ge h.o b hw.symm).1
    · omega
  have hc2 : w2.heap[w.heap.size]? = _ := (hg.block _ (by omega) (nC _ (by omega))).trans ((hb.block _ hC).trans h.c)
  have he2 : w2.heap[w.heap.size + 1]? = _ := (hg.block _ (by omega) (nC _ (by omega))).trans ((hb.block _ hE).trans h.e)
  have hl2 := ((h.l.kept (grown_below hb) (apart_of (by simp))).kept hg (apart_of (fun k hk e => h.ne k e hk))).kept (grown_set w2 ⟨w.heap.size, 4, none⟩ (.slice (some ⟨b, 0, none⟩) (od.length + 1) cap)) (apart_of (fun k hk e => by have := (own_ge h.l k hk).1; have e2 : k = w.heap.size := Option.some.inj e; omega))
  refine ⟨?_, ?_, ?_, ?_, hl2, ?_⟩
  · rw [heap_setCell_same _ _ _ _ _ _ hc2]; rfl
  · rw [heap_setCell_other _ _ _ _ (by show w.heap.size + 1 ≠ w.heap.size; omega)]; exact he2
  · exact ((below_step h.bel hb).trans (below_grown hg (fun k hk => by have := (own_ge h.o k hk).1; omega) (by have := h.bel.size; omega))).setCell (Nat.le_refl _) _
  · have := hown.kept (grown_set w2 ⟨w.heap.size, 4, none⟩ (.slice (some ⟨b, 0, none⟩) (od.length + 1) cap)) (Or.inr (by show some b ≠ some w.heap.size; intro e; cases e; omega))
    simpa using this
  · intro k hk e
    cases hk
    rcases hw with hw | hw
    · exact h.ne b hw.symm e
    · have := (own_ge h.l b e).2; omega

theorem DI.pushL {w wr W1 w2 : World} {g ep l v : Nat} {ov lv : Value} {od ln : List Int} (h : DI w wr g ep l v ov lv od ln) (hb : Below wr.heap.size wr W1) (x : Int) (b cap : Nat)
    (hown : w2.ownsRow (w.heap.size + 2) 3 1 (.slice (some ⟨b, 0, none⟩) (ln.length + 1) cap) (ln.length + 1) (ln.map (Value.int .i64) ++ [.int .i64 x])) (hg : W1.grownBy w2 lv.ownBlock) (hw : lv.ownBlock = some b ∨ b = W1.heap.size) :
    DI w (w2.setCell ⟨w.heap.size, 5, none⟩ (.slice (some ⟨b, 0, none⟩) (ln.length + 1) cap)) g ep l v ov (.slice (some ⟨b, 0, none⟩) (ln.length + 1) cap) od (ln ++ [x]) := by
  have hsz := hb.size
  have hC := lt_of_row h.c
  have hE := lt_of_row h.e
  have nC : ∀ k, k < w.heap.size + 2 → some k ≠ lv.ownBlock := fun k hk e => by have := (own_ge h.l k e).1; omega
  have bge : w.heap.size + 2 ≤ b := by
    rcases hw with hw | hw
    · exact (own_ge h.l b hw.symm).1
    · omega
  have hc2 : w2.heap[w.heap.size]? = _ := (hg.block _ (by omega) (nC _ (by omega))).trans ((hb.block _ hC).trans h.c)
  have he2 : w2.heap[w.heap.size + 1]? = _ := (hg.block _ (by omega) (nC _ (by omega))).trans ((hb.block _ hE).trans h.e)
  have hl2 := ((h.o.kept (grown_below hb) (apart_of (by simp))).kept hg (apart_of (fun k hk e => h.ne k hk e))).kept (grown_set w2 ⟨w.heap.size, 5, none⟩ (.slice (some ⟨b, 0, none⟩) (ln.length + 1) cap)) (apart_of (fun k hk e => by have := (own_ge h.o k hk).1; have e2 : k = w.heap.size := Option.some.inj e; omega))
  refine ⟨?_, ?_, ?_, hl2, ?_, ?_⟩
  · rw [heap_setCell_same _ _ _ _ _ _ hc2]; rfl
  · rw [heap_setCell_other _ _ _ _ (by show w.heap.size + 1 ≠ w.heap.size; omega)]; exact he2
  · exact ((below_step h.bel hb).trans (below_grown hg (fun k hk => by have := (own_ge h.l k hk).1; omega) (by have := h.bel.size; omega))).setCell (Nat.le_refl _) _
  · have := hown.kept (grown_set w2 ⟨w.heap.size, 5, none⟩ (.slice (some ⟨b, 0, none⟩) (ln.length + 1) cap)) (Or.inr (by show some b ≠ some w.heap.size; intro e; cases e; omega))
    simpa using this
  · intro k hk e
    cases e
    rcases hw with hw | hw
    · exact h.ne b hk hw.symm
    · have := (own_ge h.o b hk).2; omega

/-- a list that is owned is a list in memory -/
theorem Sl.of_own {W : World} {base : Nat} {v : Value} {l : List Int} (h : W.ownsRow base 3 1 v l.length (l.map (Value.int .i64))) : Sl W v l := by
  rcases h.2 with ⟨rfl, h0⟩ | ⟨b, cap, cur, rfl, _, hh, hc, _, hs, ht⟩
  · exact Or.inl ⟨List.length_eq_zero_iff.1 h0, none, 0, rfl, fun _ => rfl⟩
  · by_cases h0 : l = []
    · subst h0
      exact Or.inl ⟨rfl, _, cap, rfl, by simp⟩
    · refine Or.inr ⟨h0, b, 0, cap, rfl, hc, fun i hi => ?_⟩
      rw [Nat.zero_add, cell_of_row _ _ i _ _ _ hh]
      have e1 : (cur.toList.take (l.length * 1))[i]? = some (Value.int .i64 l[i]) := by rw [ht]; simp [hi]
      rw [List.getElem?_take_of_lt (by omega)] at e1
      simpa using e1
end Go.Proofs.Ytieijelbflkpeaa.G
