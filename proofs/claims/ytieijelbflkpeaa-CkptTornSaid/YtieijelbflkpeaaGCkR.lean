/- The reference's Decode. -/
import Derived.Test.YtieijelbflkpeaaGCkD2
import Derived.Test.YtieijelbflkpeaaGCkG
namespace Go.Proofs.Ytieijelbflkpeaa.G
open Go.RowKit Go.Proofs.Ytieijelbflkpeaa.CrcPlain Go.Proofs.Ytieijelbflkpeaa.WordPlain Go.Proofs.Ytieijelbflkpeaa.Loose
set_option linter.unusedVariables false
set_option linter.unusedSimpArgs false

/-- a checkpoint that grows, in block C, beside another block -/
structure DJ (w wr : World) (ty : TypeId) (C A B : Nat) (oA : Obj) (g ep l v : Nat) (ov lv : Value) (od ln : List Int) : Prop where
  c : wr.heap[C]? = some (.cells #[.int .u64 g, .int .u32 ep, .int .u64 l, .int .u64 v, ov, lv] ty (0, 0))
  a : wr.heap[A]? = some oA
  bel : Below w.heap.size w wr
  o : wr.ownsRow B 3 1 ov od.length (od.map (Value.int .i64))
  l : wr.ownsRow B 3 1 lv ln.length (ln.map (Value.int .i64))
  ne : ∀ k, some k = ov.ownBlock → some k ≠ lv.ownBlock
  wC : w.heap.size ≤ C
  wA : w.heap.size ≤ A
  CB : C < B
  AB : A < B
  ne' : A ≠ C
  Bs : B ≤ wr.heap.size
theorem DJ.keepC {w wr W1 w2 : World} {ty : TypeId} {C A B : Nat} {oA : Obj} {g ep l v : Nat} {ov lv : Value} {od ln : List Int} {row : Option Nat} (h : DJ w wr ty C A B oA g ep l v ov lv od ln) (hb : Below wr.heap.size wr W1) (hg : W1.grownBy w2 row) (hr : row = ov.ownBlock ∨ row = lv.ownBlock) :
    w2.heap[C]? = some (.cells #[.int .u64 g, .int .u32 ep, .int .u64 l, .int .u64 v, ov, lv] ty (0, 0)) := by
  have hsz := hb.size
  have hC := lt_of_row h.c
  have q3 := h.CB
  refine (hg.block _ (by omega) ?_).trans ((hb.block _ hC).trans h.c)
  intro e
  rcases hr with hr | hr
  · have := (own_ge h.o _ (e.trans hr)).1; omega
  · have := (own_ge h.l _ (e.trans hr)).1; omega

theorem DJ.pushO {w wr W1 w2 : World} {ty : TypeId} {C A B : Nat} {oA : Obj} {g ep l v : Nat} {ov lv : Value} {od ln : List Int} (h : DJ w wr ty C A B oA g ep l v ov lv od ln) (hb : Below wr.heap.size wr W1) (x : Int) (b cap : Nat)
    (hown : w2.ownsRow B 3 1 (.slice (some ⟨b, 0, none⟩) (od.length + 1) cap) (od.length + 1) (od.map (Value.int .i64) ++ [.int .i64 x])) (hg : W1.grownBy w2 ov.ownBlock) (hw : ov.ownBlock = some b ∨ b = W1.heap.size) :
    DJ w (w2.setCell ⟨C, 4, none⟩ (.slice (some ⟨b, 0, none⟩) (od.length + 1) cap)) ty C A B oA g ep l v (.slice (some ⟨b, 0, none⟩) (od.length + 1) cap) lv (od ++ [x]) ln := by
  have hsz := hb.size
  have hC := lt_of_row h.c
  have hE := lt_of_row h.a
  have q1 := h.wC
  have q2 := h.wA
  have q3 := h.CB
  have q4 := h.AB
  have q5 := h.ne'
  have q6 := h.Bs
  have nC : ∀ k, k < B → some k ≠ ov.ownBlock := fun k hk e => by have := (own_ge h.o k e).1; omega
  have bge : B ≤ b := by
    rcases hw with hw | hw
    · exact (own_ge h.o b hw.symm).1
    · omega
  have hc2 : w2.heap[C]? = _ := (hg.block _ (by omega) (nC _ (by omega))).trans ((hb.block _ hC).trans h.c)
  have he2 : w2.heap[A]? = _ := (hg.block _ (by omega) (nC _ (by omega))).trans ((hb.block _ hE).trans h.a)
  have hl2 := ((h.l.kept (grown_below hb) (apart_of (by simp))).kept hg (apart_of (fun k hk e => h.ne k e hk))).kept (grown_set w2 ⟨C, 4, none⟩ (.slice (some ⟨b, 0, none⟩) (od.length + 1) cap)) (apart_of (fun k hk e => by have := (own_ge h.l k hk).1; have e2 : k = C := Option.some.inj e; omega))
  refine ⟨?_, ?_, ?_, ?_, hl2, ?_, q1, q2, q3, q4, q5, ?_⟩
  · rw [heap_setCell_same _ _ _ _ _ _ hc2]; rfl
  · rw [heap_setCell_other _ _ _ _ (by show A ≠ C; exact q5)]; exact he2
  · exact ((below_step h.bel hb).trans (below_grown hg (fun k hk => by have := (own_ge h.o k hk).1; omega) (by have := h.bel.size; omega))).setCell q1 _
  · have := hown.kept (grown_set w2 ⟨C, 4, none⟩ (.slice (some ⟨b, 0, none⟩) (od.length + 1) cap)) (Or.inr (by show some b ≠ some C; intro e; cases e; omega))
    simpa using this
  · intro k hk e
    cases hk
    rcases hw with hw | hw
    · exact h.ne b hw.symm e
    · have := (own_ge h.l b e).2; omega
  · have := hg.size; show B ≤ (World.setCell _ _ _).heap.size; simp; omega

theorem DJ.pushL {w wr W1 w2 : World} {ty : TypeId} {C A B : Nat} {oA : Obj} {g ep l v : Nat} {ov lv : Value} {od ln : List Int} (h : DJ w wr ty C A B oA g ep l v ov lv od ln) (hb : Below wr.heap.size wr W1) (x : Int) (b cap : Nat)
    (hown : w2.ownsRow B 3 1 (.slice (some ⟨b, 0, none⟩) (ln.length + 1) cap) (ln.length + 1) (ln.map (Value.int .i64) ++ [.int .i64 x])) (hg : W1.grownBy w2 lv.ownBlock) (hw : lv.ownBlock = some b ∨ b = W1.heap.size) :
    DJ w (w2.setCell ⟨C, 5, none⟩ (.slice (some ⟨b, 0, none⟩) (ln.length + 1) cap)) ty C A B oA g ep l v ov (.slice (some ⟨b, 0, none⟩) (ln.length + 1) cap) od (ln ++ [x]) := by
  have hsz := hb.size
  have hC := lt_of_row h.c
  have hE := lt_of_row h.a
  have q1 := h.wC
  have q2 := h.wA
  have q3 := h.CB
  have q4 := h.AB
  have q5 := h.ne'
  have q6 := h.Bs
  have nC : ∀ k, k < B → some k ≠ lv.ownBlock := fun k hk e => by have := (own_ge h.l k e).1; omega
  have bge : B ≤ b := by
    rcases hw with hw | hw
    · exact (own_ge h.l b hw.symm).1
    · omega
  have hc2 : w2.heap[C]? = _ := (hg.block _ (by omega) (nC _ (by omega))).trans ((hb.block _ hC).trans h.c)
  have he2 : w2.heap[A]? = _ := (hg.block _ (by omega) (nC _ (by omega))).trans ((hb.block _ hE).trans h.a)
  have hl2 := ((h.o.kept (grown_below hb) (apart_of (by simp))).kept hg (apart_of (fun k hk e => h.ne k hk e))).kept (grown_set w2 ⟨C, 5, none⟩ (.slice (some ⟨b, 0, none⟩) (ln.length + 1) cap)) (apart_of (fun k hk e => by have := (own_ge h.o k hk).1; have e2 : k = C := Option.some.inj e; omega))
  refine ⟨?_, ?_, ?_, hl2, ?_, ?_, q1, q2, q3, q4, q5, ?_⟩
  · rw [heap_setCell_same _ _ _ _ _ _ hc2]; rfl
  · rw [heap_setCell_other _ _ _ _ (by show A ≠ C; exact q5)]; exact he2
  · exact ((below_step h.bel hb).trans (below_grown hg (fun k hk => by have := (own_ge h.l k hk).1; omega) (by have := h.bel.size; omega))).setCell q1 _
  · have := hown.kept (grown_set w2 ⟨C, 5, none⟩ (.slice (some ⟨b, 0, none⟩) (ln.length + 1) cap)) (Or.inr (by show some b ≠ some C; intro e; cases e; omega))
    simpa using this
  · intro k hk e
    cases e
    rcases hw with hw | hw
    · exact h.ne b hk hw.symm
    · have := (own_ge h.o b hk).2; omega
  · have := hg.size; show B ≤ (World.setCell _ _ _).heap.size; simp; omega


theorem wget_take (s : ByteArray) : wget (s.extract 0 8) = wget s := by
  unfold wget
  have e : (s.extract 0 8).data.toList = s.data.toList.take 8 := by simp
  rw [e, List.take_take, Nat.min_self]

theorem zero_rcheck (W : World) : (zeroValue 32).run Try.prog W = .ok (.agg #[.int .u64 0, .int .u32 0, .int .u64 0, .int .u64 0, .slice none 0 0, .slice none 0 0]) W := by kernel_rfl

/-- a pointer to a new row -/
def NewPtr (ty : TypeId) (cs : Array Value) (B : Nat) (u : Value) (W : World) : Prop := ∃ b, u = .pointer (some ⟨b, 0, none⟩) ∧ B ≤ b ∧ W.heap[b]? = some (.cells cs ty (0, 0))
theorem stab_ptr (ty : TypeId) (cs : Array Value) (B : Nat) : Stab (NewPtr ty cs B) := by
  rintro v w w' ⟨b, h1, h0, h2⟩ hb
  exact ⟨b, h1, h0, (hb.block b (lt_of_row h2)).trans h2⟩

theorem rresults (tmps : Array Value) (A : Nat) (a0 a1 a2 a3 a4 a5 : Value) (x : Int) (W : World) (h2 : tmps[2]? = some (.pointer (some ⟨A, 0, none⟩))) (h3 : tmps[3]? = some (.int .i64 x))
    (hc : W.heap[A]? = some (.cells #[a0, a1, a2, a3, a4, a5] 32 (0, 0))) :
    (results Try.f14 tmps).run Try.prog W = .ok (.tuple #[.agg #[a0, a1, a2, a3, a4, a5], .int .i64 x]) W := by
  have c0 := (cell_of_row _ _ 0 _ _ _ hc).trans (show _ = some a0 from rfl)
  have c1 := (cell_of_row _ _ 1 _ _ _ hc).trans (show _ = some a1 from rfl)
  have c2 := (cell_of_row _ _ 2 _ _ _ hc).trans (show _ = some a2 from rfl)
  have c3 := (cell_of_row _ _ 3 _ _ _ hc).trans (show _ = some a3 from rfl)
  have c4 := (cell_of_row _ _ 4 _ _ _ hc).trans (show _ = some a4 from rfl)
  have c5 := (cell_of_row _ _ 5 _ _ _ hc).trans (show _ = some a5 from rfl)
  simp [results, Try.results14, go_sem, h2, h3, c0, c1, c2, c3, c4, c5]

set_option maxRecDepth 100000 in
set_option maxHeartbeats 1000000 in
theorem rDecode_early (s : ByteArray) (w : World) (hmax : s.size ≤ 140737488351232) (h : s.size ≠ 128 ∨ (s.size = 128 ∧ 16 < bAt s 28)) :
    Calls Try.prog 14 #[.string s] w fun e w' => e = .returned (.tuple #[.agg #[.int .u64 0, .int .u32 0, .int .u64 0, .int .u64 0, .slice none 0 0, .slice none 0 0], .int .i64 5]) ∧ Below w.heap.size w w' := by
  have hzc := zero_rcheck
  have hn := heap_alloc_new w (.cells #[.int .u64 0, .int .u32 0, .int .u64 0, .int .u64 0, .slice none 0 0, .slice none 0 0] 32)
  have hn2 := setRow_heap _ _ _ #[.int .u64 0, .int .u32 0, .int .u64 0, .int .u64 0, .slice none 0 0, .slice none 0 0] _ _ hn
  have hb := ((Below.refl w.heap.size w).alloc (Nat.le_refl _) (.cells #[.int .u64 0, .int .u32 0, .int .u64 0, .int .u64 0, .slice none 0 0, .slice none 0 0] 32)).setRow (Nat.le_refl _) #[.int .u64 0, .int .u32 0, .int .u64 0, .int .u64 0, .slice none 0 0, .slice none 0 0]
  have HN := Lib.hid hn
  have HN2 := Lib.hid hn2
  have HB := Lib.hid hb
  clear hn hn2 hb
  rcases h with h | ⟨h, h16⟩
  · have q : ((s.size : Int) != 128) = true := by rw [bne, beq_eq_false_iff_ne.2 (show ¬ (s.size : Int) = 128 by omega)]; rfl
    clear h
    go_enter Try.func14, Try.ntmps14
    go_wp2_with (refine wpList_store_row rfl 32 _ _ rfl w.heap.size #[.int .u64 0, .int .u32 0, .int .u64 0, .int .u64 0, .slice none 0 0, .slice none 0 0] rfl rfl _ _ HN.out (by kernel_rfl) rfl (by kernel_rfl) ?_)
    exact bodyPost_ret (rresults _ w.heap.size _ _ _ _ _ _ 5 _ rfl rfl HN2.out) rfl ⟨rfl, HB.out⟩
  · have q : ((s.size : Int) != 128) = false := by rw [bne, beq_iff_eq.2 (show (s.size : Int) = 128 by omega)]; rfl
    obtain ⟨n, hnn⟩ : ∃ n, n = bAt s 28 := ⟨_, rfl⟩
    have hix : ∀ W : World, (Instr.index 9 (.string s) (.int .i64 28)).run Try.prog W = .ok (.int .u8 n) W := fun W => index_byte s 28 n (by omega) hnn W
    rw [← hnn] at h16
    clear h hnn
    go_enter Try.func14, Try.ntmps14
    go_wp2_with (refine wpList_store_row rfl 32 _ _ rfl w.heap.size #[.int .u64 0, .int .u32 0, .int .u64 0, .int .u64 0, .slice none 0 0, .slice none 0 0] rfl rfl _ _ HN.out (by kernel_rfl) rfl (by kernel_rfl) ?_)
    exact bodyPost_ret (rresults _ w.heap.size _ _ _ _ _ _ 5 _ rfl rfl HN2.out) rfl ⟨rfl, HB.out⟩
end Go.Proofs.Ytieijelbflkpeaa.G
