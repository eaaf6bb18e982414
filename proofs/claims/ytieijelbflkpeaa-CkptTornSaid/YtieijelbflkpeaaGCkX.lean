/- The fixed calls of package ckpt. -/
import Derived.Test.YtieijelbflkpeaaGCkB
import Derived.Test.YtieijelbflkpeaaGCkL
import Derived.Test.YtieijelbflkpeaaGFast
import Derived.BigQuiet
namespace Go.Proofs.Ytieijelbflkpeaa.G
open Go.RowKit Go.Proofs.Ytieijelbflkpeaa.CrcPlain Go.Proofs.Ytieijelbflkpeaa.WordPlain Go.Proofs.Ytieijelbflkpeaa.Loose
set_option linter.unusedVariables false
set_option linter.unusedSimpArgs false

theorem Sl.regrown {W : World} {v : Value} {l : List Int} (h : Sl W v l) (d : Nat) (os : Array Obj) : Sl (Sort.grow (redrawn W d) os) v l := by
  rcases h with h | ⟨h0, b, off, cap, hv, hc, hx⟩
  · exact Or.inl h
  · exact Or.inr ⟨h0, b, off, cap, hv, hc, fun i hi => cell_regrown (hx i hi) d os⟩

/-- six new blocks -/
theorem six_new (w : World) (o1 o2 o3 o4 o5 o6 : Obj) : ∀ W, W = (((((w.alloc o1).alloc o2).alloc o3).alloc o4).alloc o5).alloc o6 →
    W.heap[w.heap.size]? = some o1 ∧ W.heap[w.heap.size + 1]? = some o2 ∧ W.heap[w.heap.size + 2]? = some o3 ∧ W.heap[w.heap.size + 3]? = some o4 ∧ W.heap[w.heap.size + 4]? = some o5 ∧ W.heap[w.heap.size + 5]? = some o6 ∧ Below w.heap.size w W := by
  intro W hW
  obtain ⟨p1, p2, pb, ps⟩ := two_new w o1 o2
  obtain ⟨q1, q2, qb, qs⟩ := two_new ((w.alloc o1).alloc o2) o3 o4
  obtain ⟨r1, r2, rb, rs⟩ := two_new ((((w.alloc o1).alloc o2).alloc o3).alloc o4) o5 o6
  rw [ps] at q1 q2 qs
  rw [qs] at r1 r2 rs
  rw [← hW] at r1 r2 rs rb
  refine ⟨?_, ?_, ?_, ?_, r1, r2, ?_⟩
  · rw [rb.block _ (by rw [qs]; omega), qb.block _ (by rw [ps]; omega)]; exact p1
  · rw [rb.block _ (by rw [qs]; omega), qb.block _ (by rw [ps]; omega)]; exact p2
  · rw [rb.block _ (by rw [qs]; omega)]; exact q1
  · rw [rb.block _ (by rw [qs]; omega)]; exact q2
  · exact below_step (below_step pb qb) rb

theorem Sl.mk {W : World} {b n : Nat} {l : List Int} {cs : Array Value} {ty : TypeId} (h : W.heap[b]? = some (.cells cs ty (0, 0))) (hn : n = l.length) (h0 : l ≠ []) (hcs : cs = (l.map (Value.int .i64)).toArray) : Sl W (.slice (some ⟨b, 0, none⟩) n n) l := by
  subst hn
  refine Or.inr ⟨h0, b, 0, _, rfl, Nat.le_refl _, fun i hi => ?_⟩
  rw [Nat.zero_add, cell_of_row _ _ i _ _ _ h, hcs]
  simp [hi]

theorem cells6 {W : World} {b : Nat} {a0 a1 a2 a3 a4 a5 : Value} {ty : TypeId} (h : W.heap[b]? = some (.cells #[a0, a1, a2, a3, a4, a5] ty (0, 0))) :
    W.cell? ⟨b, 0, none⟩ = some a0 ∧ W.cell? ⟨b, 1, none⟩ = some a1 ∧ W.cell? ⟨b, 2, none⟩ = some a2 ∧ W.cell? ⟨b, 3, none⟩ = some a3 ∧ W.cell? ⟨b, 4, none⟩ = some a4 ∧ W.cell? ⟨b, 5, none⟩ = some a5 :=
  ⟨(cell_of_row _ _ 0 _ _ _ h).trans rfl, (cell_of_row _ _ 1 _ _ _ h).trans rfl, (cell_of_row _ _ 2 _ _ _ h).trans rfl, (cell_of_row _ _ 3 _ _ _ h).trans rfl, (cell_of_row _ _ 4 _ _ _ h).trans rfl, (cell_of_row _ _ 5 _ _ _ h).trans rfl⟩

def fx1 : Ck := ⟨1, 1, 1, 0, [0], [0]⟩
def fx2 : Ck := ⟨2, 1, 9, 4, [3, 0], [30, 2]⟩
def fx3 : Ck := ⟨1, 0, 1, 0, [0, 0], [0, 0]⟩
theorem kind_of (g ep l v : Nat) (od ln : List Int) (h1 : g < 100) (h2 : ep < 100) (h3 : l < 100) (h4 : v < 100) (h5 : ∀ x ∈ od, 0 ≤ x ∧ x < 100) (h6 : ∀ x ∈ ln, 0 ≤ x ∧ x < 100) (h7 : od.length < 100) (h8 : ln.length < 100) : (Ck.mk g ep l v od ln).Kind :=
  ⟨by show g < _; omega, by show ep < _; omega, by show l < _; omega, by show v < _; omega, fun x hx => by have := h5 x hx; omega, fun x hx => by have := h6 x hx; omega, by show od.length ≤ _; omega, by show ln.length ≤ _; omega⟩
theorem fx1_kind : fx1.Kind := kind_of _ _ _ _ _ _ (by decide) (by decide) (by decide) (by decide) (by decide) (by decide) (by decide) (by decide)
theorem fx2_kind : fx2.Kind := kind_of _ _ _ _ _ _ (by decide) (by decide) (by decide) (by decide) (by decide) (by decide) (by decide) (by decide)
theorem fx3_kind : fx3.Kind := kind_of _ _ _ _ _ _ (by decide) (by decide) (by decide) (by decide) (by decide) (by decide) (by decide) (by decide)
theorem fx1_right : fx1.Right := by decide
theorem fx2_right : fx2.Right := by decide
theorem fx3_right : ¬ fx3.Right := by decide
theorem zero_not : ¬ decOk zeros128 := by
  intro h
  have h1 := h.2.2.1.1
  apply h1
  show wget zeros128 = 0
  decide
theorem none_not : ¬ decOk ⟨#[]⟩ := fun h => absurd h.1 (by decide)

theorem fx_bytes : (bAt fx1.out 0 = 1 ∧ bAt fx1.out 8 = 1 ∧ bAt fx1.out 12 = 1 ∧ bAt fx1.out 28 = 1 ∧ bAt fx1.out 120 = 1) ∧ bAt fx2.out 29 = 3 ∧ bAt fx2.out 30 = 30 := by
  rw [out_right _ fx1_right, out_right _ fx2_right]
  decide +kernel

theorem fx1_val (a b : Value) : fx1.val a b = .agg #[.int .u64 1, .int .u32 1, .int .u64 1, .int .u64 0, a, b] := rfl
theorem fx2_val (a b : Value) : fx2.val a b = .agg #[.int .u64 2, .int .u32 1, .int .u64 9, .int .u64 4, a, b] := rfl
theorem fx3_val (a b : Value) : fx3.val a b = .agg #[.int .u64 1, .int .u32 0, .int .u64 1, .int .u64 0, a, b] := rfl
theorem noCk_val (a b : Value) : noCk.val a b = .agg #[.int .u64 0, .int .u32 0, .int .u64 0, .int .u64 0, a, b] := rfl
/-- what the fixed calls answer -/
theorem fx_dec : decC fx2.out = fx2 ∧ decE fx2.out = 0 ∧ decC ⟨#[]⟩ = noCk ∧ decE ⟨#[]⟩ = 5 :=
  ⟨(dec_out _ fx2_kind fx2_right).2, if_pos (dec_out _ fx2_kind fx2_right).1, if_neg none_not, if_neg none_not⟩
theorem fx_best1 : bestC fx1.out fx2.out = fx2 ∧ bestI fx1.out fx2.out = 1 ∧ bestE fx1.out fx2.out = 0 := by
  obtain ⟨a1, a2⟩ := dec_out _ fx1_kind fx1_right
  obtain ⟨b1, b2⟩ := dec_out _ fx2_kind fx2_right
  have h : bestY fx1.out fx2.out := ⟨b1, Or.inr (by rw [a2, b2]; decide)⟩
  exact ⟨(if_pos h).trans b2, if_pos h, if_pos (Or.inl a1)⟩
theorem fx_best2 : bestC fx1.out zeros128 = fx1 ∧ bestI fx1.out zeros128 = 0 ∧ bestE fx1.out zeros128 = 0 := by
  obtain ⟨a1, a2⟩ := dec_out _ fx1_kind fx1_right
  have h : ¬ bestY fx1.out zeros128 := fun h => zero_not h.1
  exact ⟨(if_neg h).trans a2, if_neg h, if_pos (Or.inl a1)⟩
theorem fx_best3 : bestC ⟨#[]⟩ zeros128 = noCk ∧ bestI ⟨#[]⟩ zeros128 = 0 ∧ bestE ⟨#[]⟩ zeros128 = 5 := by
  have h : ¬ bestY ⟨#[]⟩ zeros128 := fun h => zero_not h.1
  exact ⟨(if_neg h).trans (if_neg none_not), if_neg h, if_neg (fun h => h.elim none_not zero_not)⟩

set_option maxRecDepth 100000 in
set_option maxHeartbeats 8000000 in
theorem fixed_val (w : World) : Calls Try.prog 20 #[] w fun e w' => e = .returned (.bool true) ∧ Below w.heap.size w w' := by
  have hzc := zero_check
  obtain ⟨s, hs⟩ : ∃ s, s = fx1.out := ⟨_, rfl⟩
  obtain ⟨t, ht⟩ : ∃ s, s = fx2.out := ⟨_, rfl⟩
  obtain ⟨z, hz⟩ : ∃ s, s = zeros128 := ⟨_, rfl⟩
  have hss : s.size = 128 := by rw [hs]; exact out_size _ fx1_right
  have hts : t.size = 128 := by rw [ht]; exact out_size _ fx2_right
  have e1 := fun vo vl W (ho : Sl W vo [0]) (hl : Sl W vl [0]) => Encode_val fx1 vo vl W fx1_kind ho hl s 0 (Lib.hid hs) (Lib.hid (if_pos fx1_right).symm)
  have e2 := fun vo vl W (ho : Sl W vo [3, 0]) (hl : Sl W vl [30, 2]) => Encode_val fx2 vo vl W fx2_kind ho hl t 0 (Lib.hid ht) (Lib.hid (if_pos fx2_right).symm)
  have e3 := fun vo vl W (ho : Sl W vo [0, 0]) (hl : Sl W vl [0, 0]) => Encode_val fx3 vo vl W fx3_kind ho hl ⟨#[]⟩ 5 (Lib.hid (if_neg fx3_right).symm) (Lib.hid (if_neg fx3_right).symm)
  have d1 := fun W => Decode_val t W
  have d2 := fun W => Decode_val ⟨#[]⟩ W
  obtain ⟨q1, q2, q3, q4⟩ := fx_dec
  rw [← ht] at q1 q2
  rw [q1, q2] at d1
  rw [q3, q4] at d2
  have b1 := fun W => Best_val s t W
  have b2 := fun W => Best_val s z W
  have b3 := fun W => Best_val ⟨#[]⟩ z W
  obtain ⟨f1, f2, f3⟩ := fx_best1
  obtain ⟨g1, g2, g3⟩ := fx_best2
  obtain ⟨h1, h2, h3⟩ := fx_best3
  rw [← hs, ← ht] at f1 f2 f3
  rw [← hs, ← hz] at g1 g2 g3
  rw [← hz] at h1 h2 h3
  rw [f1, f2, f3] at b1
  rw [g1, g2, g3] at b2
  rw [h1, h2, h3] at b3
  have z1 := fun W => Zero_val W z (Lib.hid hz)
  have rf := fun vo vl W (ho : Sl W vo [3, 0]) (hl : Sl W vl [30, 2]) => Ref_val fx2 vo vl W ho hl
  have sm := fun vo vl uo ul W (ho : Sl W vo [3, 0]) (hl : Sl W vl [30, 2]) (go : Sl W uo [3, 0]) (gl : Sl W ul [30, 2]) => Same_val fx2 fx2 vo vl uo ul W fx2_kind ho hl go gl true (Lib.hid (by decide))
  have r1 := fun vo vl W (ho : Sl W vo [0]) (hl : Sl W vl [0]) => Right_val fx1 vo vl W fx1_kind ho hl true (Lib.hid (decide_eq_true fx1_right).symm)
  have r2 := fun W => Right_val noCk (.slice none 0 0) (.slice none 0 0) W noCk_kind (Or.inl ⟨rfl, none, 0, rfl, fun _ => rfl⟩) (Or.inl ⟨rfl, none, 0, rfl, fun _ => rfl⟩) false (Lib.hid (by decide))
  simp only [fx1_val, fx2_val, fx3_val, noCk_val] at e1 e2 e3 d1 d2 b1 b2 b3 rf sm r1 r2
  have fxb := fx_bytes
  rw [← hs, ← ht] at fxb
  obtain ⟨⟨k0, k8, k12, k28, k120⟩, k29, k30⟩ := fxb
  have ix0 : ∀ W : World, (Instr.index 9 (.string s) (.int .i64 0)).run Try.prog W = .ok (.int .u8 1) W := fun W => index_byte s 0 1 (by omega) k0.symm W
  have ix8 : ∀ W : World, (Instr.index 9 (.string s) (.int .i64 8)).run Try.prog W = .ok (.int .u8 1) W := fun W => index_byte s 8 1 (by omega) k8.symm W
  have ix12 : ∀ W : World, (Instr.index 9 (.string s) (.int .i64 12)).run Try.prog W = .ok (.int .u8 1) W := fun W => index_byte s 12 1 (by omega) k12.symm W
  have ix28 : ∀ W : World, (Instr.index 9 (.string s) (.int .i64 28)).run Try.prog W = .ok (.int .u8 1) W := fun W => index_byte s 28 1 (by omega) k28.symm W
  have ix120 : ∀ W : World, (Instr.index 9 (.string s) (.int .i64 120)).run Try.prog W = .ok (.int .u8 1) W := fun W => index_byte s 120 1 (by omega) k120.symm W
  have jx29 : ∀ W : World, (Instr.index 9 (.string t) (.int .i64 29)).run Try.prog W = .ok (.int .u8 3) W := fun W => index_byte t 29 3 (by omega) k29.symm W
  have jx30 : ∀ W : World, (Instr.index 9 (.string t) (.int .i64 30)).run Try.prog W = .ok (.int .u8 30) W := fun W => index_byte t 30 30 (by omega) k30.symm W
  have n1 : ((s.size : Int) != 128) = false := by rw [bne, beq_iff_eq.2 (show (s.size : Int) = 128 by omega)]; rfl
  have n2 : ((t.size : Int) != 128) = false := by rw [bne, beq_iff_eq.2 (show (t.size : Int) = 128 by omega)]; rfl
  have E1 := Lib.hid e1
  have E2 := Lib.hid e2
  have E3 := Lib.hid e3
  have D1 := Lib.hid d1
  have D2 := Lib.hid d2
  have B1 := Lib.hid b1
  have B2 := Lib.hid b2
  have B3 := Lib.hid b3
  have Z1 := Lib.hid z1
  have RF := Lib.hid rf
  have SM := Lib.hid sm
  have R1 := Lib.hid r1
  have R2 := Lib.hid r2
  clear hs ht hz hss hts e1 e2 e3 d1 d2 q1 q2 q3 q4 b1 b2 b3 f1 f2 f3 g1 g2 g3 h1 h2 h3 z1 rf sm r1 r2 k0 k8 k12 k28 k120 k29 k30
  go_enter Try.func20, Try.ntmps20
  go_wp2_with fail
  simp only [Nat.add_assoc, Nat.reduceAdd]
  obtain ⟨W, hW⟩ : ∃ W, W = (((((w.alloc (.cells #[.int .i64 0] 3)).alloc (.cells #[.int .i64 0] 3)).alloc (.cells #[.int .u64 1, .int .u32 1, .int .u64 1, .int .u64 0, .slice (some ⟨w.heap.size, 0, none⟩) 1 1, .slice (some ⟨w.heap.size + 1, 0, none⟩) 1 1] 26)).alloc (.cells #[.int .i64 3, .int .i64 0] 3)).alloc (.cells #[.int .i64 30, .int .i64 2] 3)).alloc (.cells #[.int .u64 2, .int .u32 1, .int .u64 9, .int .u64 4, .slice (some ⟨w.heap.size + 3, 0, none⟩) 2 2, .slice (some ⟨w.heap.size + 4, 0, none⟩) 2 2] 26) := ⟨_, rfl⟩
  obtain ⟨p1, p2, p3, p4, p5, p6, pb⟩ := six_new w _ _ _ _ _ _ W hW
  rw [← hW]
  have so : Sl W (.slice (some ⟨w.heap.size, 0, none⟩) 1 1) [0] := Sl.mk p1 rfl (by simp) rfl
  have sl : Sl W (.slice (some ⟨w.heap.size + 1, 0, none⟩) 1 1) [0] := Sl.mk p2 rfl (by simp) rfl
  have to : Sl W (.slice (some ⟨w.heap.size + 3, 0, none⟩) 2 2) [3, 0] := Sl.mk p4 rfl (by simp) rfl
  have tl : Sl W (.slice (some ⟨w.heap.size + 4, 0, none⟩) 2 2) [30, 2] := Sl.mk p5 rfl (by simp) rfl
  clear hW p1 p2 p4 p5
  obtain ⟨vo, hvo⟩ : ∃ v, v = Value.slice (some ⟨w.heap.size, 0, none⟩) 1 1 := ⟨_, rfl⟩
  obtain ⟨vl, hvl⟩ : ∃ v, v = Value.slice (some ⟨w.heap.size + 1, 0, none⟩) 1 1 := ⟨_, rfl⟩
  obtain ⟨uo, huo⟩ : ∃ v, v = Value.slice (some ⟨w.heap.size + 3, 0, none⟩) 2 2 := ⟨_, rfl⟩
  obtain ⟨ul, hul⟩ : ∃ v, v = Value.slice (some ⟨w.heap.size + 4, 0, none⟩) 2 2 := ⟨_, rfl⟩
  simp only [← hvo, ← hvl, ← huo, ← hul] at so sl to tl p3 p6 ⊢
  clear hvo hvl huo hul
  obtain ⟨C, hC⟩ : ∃ c, c = w.heap.size + 2 := ⟨_, rfl⟩
  obtain ⟨D, hD⟩ : ∃ c, c = w.heap.size + 5 := ⟨_, rfl⟩
  simp only [← hC, ← hD] at p3 p6 ⊢
  clear hC hD
  have PB := Lib.hid pb
  have SO := Lib.hid so
  have SL := Lib.hid sl
  have TO := Lib.hid to
  have TL := Lib.hid tl
  have RC : Hid (∀ V, Below W.heap.size W V → V.heap[C]? = some (.cells #[.int .u64 1, .int .u32 1, .int .u64 1, .int .u64 0, vo, vl] 26 (0, 0))) := Lib.hid (fun V h => (h.block _ (lt_of_row p3)).trans p3)
  have RD : Hid (∀ V, Below W.heap.size W V → V.heap[D]? = some (.cells #[.int .u64 2, .int .u32 1, .int .u64 9, .int .u64 4, uo, ul] 26 (0, 0))) := Lib.hid (fun V h => (h.block _ (lt_of_row p6)).trans p6)
  clear pb so sl to tl p3 p6
  refine (E1.out _ _ _ SO.out SL.out).mono ?_; rintro e w1 ⟨rfl, hb1⟩
  obtain ⟨x0, x1, x2, x3, x4, x5⟩ := cells6 (RD.out _ hb1)
  go_wp2_with fail
  clear x0 x1 x2 x3 x4 x5
  refine (E2.out _ _ _ (TO.out.below hb1 (Nat.le_refl _)) (TL.out.below hb1 (Nat.le_refl _))).mono ?_; rintro e w2 ⟨rfl, hb⟩
  have hb2 := below_step hb1 hb
  clear hb hb1
  go_wp2_with fail
  refine (D1.out _).mono ?_; rintro e w3 ⟨⟨xo7, xl7, rfl, ho, hl⟩, hb⟩
  obtain ⟨oa, cap, rfl⟩ := ho.form
  obtain ⟨ob, cbp, rfl⟩ := hl.form
  obtain ⟨na, hna⟩ : ∃ m, m = fx2.order.length := ⟨_, rfl⟩
  obtain ⟨nb, hnb⟩ : ∃ m, m = fx2.lens.length := ⟨_, rfl⟩
  simp only [← hna, ← hnb] at ho hl ⊢
  clear hna hnb
  have hbb := below_step hb2 hb
  clear hb hb2
  have HO := Lib.hid ho
  have HL := Lib.hid hl
  clear ho hl
  go_wp2_with fail
  obtain ⟨X7, hX⟩ : ∃ x, x = w3.heap.size := ⟨_, rfl⟩
  have m7 := heap_alloc_new w3 (.cells #[.int .u64 2, .int .u32 1, .int .u64 9, .int .u64 4, .slice oa na cap, .slice ob nb cbp] 26)
  have mb := (Below.refl w3.heap.size w3).alloc (Nat.le_refl _) (.cells #[.int .u64 2, .int .u32 1, .int .u64 9, .int .u64 4, .slice oa na cap, .slice ob nb cbp] 26)
  obtain ⟨W7, hW⟩ : ∃ x, x = w3.alloc (.cells #[.int .u64 2, .int .u32 1, .int .u64 9, .int .u64 4, .slice oa na cap, .slice ob nb cbp] 26) := ⟨_, rfl⟩
  simp only [← hX, ← hW] at m7 mb ⊢
  rw [hX] at mb
  have bb7 := below_step hbb mb
  have HO7 := HO.out.below mb (Nat.le_refl _)
  have HL7 := HL.out.below mb (Nat.le_refl _)
  obtain ⟨xo7, hxo⟩ : ∃ v, v = Value.slice oa na cap := ⟨_, rfl⟩
  obtain ⟨xl7, hxl⟩ : ∃ v, v = Value.slice ob nb cbp := ⟨_, rfl⟩
  simp only [← hxo, ← hxl] at HO7 HL7 m7 ⊢
  clear hX hW mb hbb HO HL hxo hxl
  have RX7 : Hid (∀ V, Below W7.heap.size W7 V → V.heap[X7]? = some (.cells #[.int .u64 2, .int .u32 1, .int .u64 9, .int .u64 4, xo7, xl7] 26 (0, 0))) := Lib.hid (fun V h => (h.block _ (lt_of_row m7)).trans m7)
  have SO7 : Hid (Sl W7 xo7 [3, 0]) := Lib.hid HO7
  have SL7 : Hid (Sl W7 xl7 [30, 2]) := Lib.hid HL7
  clear m7 HO7 HL7
  have q7 := Below.refl W7.heap.size W7
  refine (D2.out _).mono ?_; rintro e w4 ⟨⟨xo9, xl9, rfl, ho, hl⟩, hb⟩
  obtain ⟨oa, cap, rfl⟩ := ho.form
  obtain ⟨ob, cbp, rfl⟩ := hl.form
  obtain ⟨na, hna⟩ : ∃ m, m = noCk.order.length := ⟨_, rfl⟩
  obtain ⟨nb, hnb⟩ : ∃ m, m = noCk.lens.length := ⟨_, rfl⟩
  simp only [← hna, ← hnb] at ho hl ⊢
  clear hna hnb
  have hbb := below_step q7 hb
  clear hb q7
  have HO := Lib.hid ho
  have HL := Lib.hid hl
  clear ho hl
  go_wp2_with fail
  obtain ⟨X9, hX⟩ : ∃ x, x = w4.heap.size := ⟨_, rfl⟩
  have m9 := heap_alloc_new w4 (.cells #[.int .u64 0, .int .u32 0, .int .u64 0, .int .u64 0, .slice oa na cap, .slice ob nb cbp] 26)
  have mb := (Below.refl w4.heap.size w4).alloc (Nat.le_refl _) (.cells #[.int .u64 0, .int .u32 0, .int .u64 0, .int .u64 0, .slice oa na cap, .slice ob nb cbp] 26)
  obtain ⟨W9, hW⟩ : ∃ x, x = w4.alloc (.cells #[.int .u64 0, .int .u32 0, .int .u64 0, .int .u64 0, .slice oa na cap, .slice ob nb cbp] 26) := ⟨_, rfl⟩
  simp only [← hX, ← hW] at m9 mb ⊢
  rw [hX] at mb
  have bb9 := below_step hbb mb
  have HO9 := HO.out.below mb (Nat.le_refl _)
  have HL9 := HL.out.below mb (Nat.le_refl _)
  obtain ⟨xo9, hxo⟩ : ∃ v, v = Value.slice oa na cap := ⟨_, rfl⟩
  obtain ⟨xl9, hxl⟩ : ∃ v, v = Value.slice ob nb cbp := ⟨_, rfl⟩
  simp only [← hxo, ← hxl] at HO9 HL9 m9 ⊢
  clear hX hW mb hbb HO HL hxo hxl
  clear m9 HO9 HL9
  have Q9 := below_step bb7 bb9
  refine (B1.out _).mono ?_; rintro e w5 ⟨⟨xo11, xl11, rfl, ho, hl⟩, hb⟩
  obtain ⟨oa, cap, rfl⟩ := ho.form
  obtain ⟨ob, cbp, rfl⟩ := hl.form
  obtain ⟨na, hna⟩ : ∃ m, m = fx2.order.length := ⟨_, rfl⟩
  obtain ⟨nb, hnb⟩ : ∃ m, m = fx2.lens.length := ⟨_, rfl⟩
  simp only [← hna, ← hnb] at ho hl ⊢
  clear hna hnb
  have hbb := below_step bb9 hb
  clear hb bb9
  have HO := Lib.hid ho
  have HL := Lib.hid hl
  clear ho hl
  go_wp2_with fail
  obtain ⟨X11, hX⟩ : ∃ x, x = w5.heap.size := ⟨_, rfl⟩
  have m11 := heap_alloc_new w5 (.cells #[.int .u64 2, .int .u32 1, .int .u64 9, .int .u64 4, .slice oa na cap, .slice ob nb cbp] 26)
  have mb := (Below.refl w5.heap.size w5).alloc (Nat.le_refl _) (.cells #[.int .u64 2, .int .u32 1, .int .u64 9, .int .u64 4, .slice oa na cap, .slice ob nb cbp] 26)
  obtain ⟨W11, hW⟩ : ∃ x, x = w5.alloc (.cells #[.int .u64 2, .int .u32 1, .int .u64 9, .int .u64 4, .slice oa na cap, .slice ob nb cbp] 26) := ⟨_, rfl⟩
  simp only [← hX, ← hW] at m11 mb ⊢
  rw [hX] at mb
  have bb11 := below_step hbb mb
  have HO11 := HO.out.below mb (Nat.le_refl _)
  have HL11 := HL.out.below mb (Nat.le_refl _)
  obtain ⟨xo11, hxo⟩ : ∃ v, v = Value.slice oa na cap := ⟨_, rfl⟩
  obtain ⟨xl11, hxl⟩ : ∃ v, v = Value.slice ob nb cbp := ⟨_, rfl⟩
  simp only [← hxo, ← hxl] at HO11 HL11 m11 ⊢
  clear hX hW mb hbb HO HL hxo hxl
  have RX11 : Hid (∀ V, Below W11.heap.size W11 V → V.heap[X11]? = some (.cells #[.int .u64 2, .int .u32 1, .int .u64 9, .int .u64 4, xo11, xl11] 26 (0, 0))) := Lib.hid (fun V h => (h.block _ (lt_of_row m11)).trans m11)
  have SO11 : Hid (Sl W11 xo11 [3, 0]) := Lib.hid HO11
  have SL11 : Hid (Sl W11 xl11 [30, 2]) := Lib.hid HL11
  clear m11 HO11 HL11
  have q11 := Below.refl W11.heap.size W11
  refine (Z1.out _).mono ?_; rintro e wz ⟨rfl, rfl⟩
  go_wp2_with fail
  refine (B2.out _).mono ?_; rintro e w6 ⟨⟨xo14, xl14, rfl, ho, hl⟩, hb⟩
  obtain ⟨oa, cap, rfl⟩ := ho.form
  obtain ⟨ob, cbp, rfl⟩ := hl.form
  obtain ⟨na, hna⟩ : ∃ m, m = fx1.order.length := ⟨_, rfl⟩
  obtain ⟨nb, hnb⟩ : ∃ m, m = fx1.lens.length := ⟨_, rfl⟩
  simp only [← hna, ← hnb] at ho hl ⊢
  clear hna hnb
  have hbb := below_step q11 hb
  clear hb q11
  have HO := Lib.hid ho
  have HL := Lib.hid hl
  clear ho hl
  go_wp2_with fail
  obtain ⟨X14, hX⟩ : ∃ x, x = w6.heap.size := ⟨_, rfl⟩
  have m14 := heap_alloc_new w6 (.cells #[.int .u64 1, .int .u32 1, .int .u64 1, .int .u64 0, .slice oa na cap, .slice ob nb cbp] 26)
  have mb := (Below.refl w6.heap.size w6).alloc (Nat.le_refl _) (.cells #[.int .u64 1, .int .u32 1, .int .u64 1, .int .u64 0, .slice oa na cap, .slice ob nb cbp] 26)
  obtain ⟨W14, hW⟩ : ∃ x, x = w6.alloc (.cells #[.int .u64 1, .int .u32 1, .int .u64 1, .int .u64 0, .slice oa na cap, .slice ob nb cbp] 26) := ⟨_, rfl⟩
  simp only [← hX, ← hW] at m14 mb ⊢
  rw [hX] at mb
  have bb14 := below_step hbb mb
  have HO14 := HO.out.below mb (Nat.le_refl _)
  have HL14 := HL.out.below mb (Nat.le_refl _)
  obtain ⟨xo14, hxo⟩ : ∃ v, v = Value.slice oa na cap := ⟨_, rfl⟩
  obtain ⟨xl14, hxl⟩ : ∃ v, v = Value.slice ob nb cbp := ⟨_, rfl⟩
  simp only [← hxo, ← hxl] at HO14 HL14 m14 ⊢
  clear hX hW mb hbb HO HL hxo hxl
  have RX14 : Hid (∀ V, Below W14.heap.size W14 V → V.heap[X14]? = some (.cells #[.int .u64 1, .int .u32 1, .int .u64 1, .int .u64 0, xo14, xl14] 26 (0, 0))) := Lib.hid (fun V h => (h.block _ (lt_of_row m14)).trans m14)
  have SO14 : Hid (Sl W14 xo14 [0]) := Lib.hid HO14
  have SL14 : Hid (Sl W14 xl14 [0]) := Lib.hid HL14
  clear m14 HO14 HL14
  have q14 := Below.refl W14.heap.size W14
  refine (Z1.out _).mono ?_; rintro e wz ⟨rfl, rfl⟩
  go_wp2_with fail
  refine (B3.out _).mono ?_; rintro e w0 ⟨⟨xo17, xl17, rfl, ho, hl⟩, hb⟩
  obtain ⟨oa, cap, rfl⟩ := ho.form
  obtain ⟨ob, cbp, rfl⟩ := hl.form
  obtain ⟨na, hna⟩ : ∃ m, m = noCk.order.length := ⟨_, rfl⟩
  obtain ⟨nb, hnb⟩ : ∃ m, m = noCk.lens.length := ⟨_, rfl⟩
  simp only [← hna, ← hnb] at ho hl ⊢
  clear hna hnb
  have hbb := below_step q14 hb
  clear hb q14
  have HO := Lib.hid ho
  have HL := Lib.hid hl
  clear ho hl
  go_wp2_with fail
  obtain ⟨X17, hX⟩ : ∃ x, x = w0.heap.size := ⟨_, rfl⟩
  have m17 := heap_alloc_new w0 (.cells #[.int .u64 0, .int .u32 0, .int .u64 0, .int .u64 0, .slice oa na cap, .slice ob nb cbp] 26)
  have mb := (Below.refl w0.heap.size w0).alloc (Nat.le_refl _) (.cells #[.int .u64 0, .int .u32 0, .int .u64 0, .int .u64 0, .slice oa na cap, .slice ob nb cbp] 26)
  obtain ⟨W17, hW⟩ : ∃ x, x = w0.alloc (.cells #[.int .u64 0, .int .u32 0, .int .u64 0, .int .u64 0, .slice oa na cap, .slice ob nb cbp] 26) := ⟨_, rfl⟩
  simp only [← hX, ← hW] at m17 mb ⊢
  rw [hX] at mb
  have hs17 : W17.heap.size = X17 + 1 := by rw [hW, hX]; show (World.heap _ |>.push _).size = _; rw [Array.size_push]
  have bb17 := below_step hbb mb
  have HO17 := HO.out.below mb (Nat.le_refl _)
  have HL17 := HL.out.below mb (Nat.le_refl _)
  obtain ⟨xo17, hxo⟩ : ∃ v, v = Value.slice oa na cap := ⟨_, rfl⟩
  obtain ⟨xl17, hxl⟩ : ∃ v, v = Value.slice ob nb cbp := ⟨_, rfl⟩
  simp only [← hxo, ← hxl] at HO17 HL17 m17 ⊢
  clear hX hW mb hbb HO HL hxo hxl
  clear m17 HO17 HL17
  go_wp2_with fail
  obtain ⟨y1, y2, yb, ys⟩ := two_new W17 (.cells #[.int .i64 0, .int .i64 0] 3) (.cells #[.int .i64 0, .int .i64 0] 3)
  obtain ⟨W20, hW⟩ : ∃ x, x = (W17.alloc (.cells #[.int .i64 0, .int .i64 0] 3)).alloc (.cells #[.int .i64 0, .int .i64 0] 3) := ⟨_, rfl⟩
  rw [← hW] at y1 y2 yb ⊢
  rw [hs17] at y1 y2
  refine (E3.out _ _ _ (Sl.mk y1 rfl (by simp) rfl) (Sl.mk y2 rfl (by simp) rfl)).mono ?_; rintro e w8 ⟨rfl, hb8⟩
  have t14 := below_step bb17 (below_step yb hb8)
  have t11 := below_step bb14 t14
  have t7 := below_step bb11 t11
  have t0 := below_step bb7 t7
  have tt := below_step PB.out t0
  obtain ⟨c0, c1, c2, c3, c4, c5⟩ := cells6 (RC.out _ t0)
  obtain ⟨d0, d1, d2, d3, d4, d5⟩ := cells6 (RD.out _ t0)
  obtain ⟨x0, x1, x2, x3, x4, x5⟩ := cells6 (RX7.out _ t7)
  obtain ⟨u0, _, _, _, _, _⟩ := cells6 (RX11.out _ t11)
  obtain ⟨v0, _, _, _, _, _⟩ := cells6 (RX14.out _ t14)
  have C0r := cell_regrown c0
  have C1r := cell_regrown c1
  have C2r := cell_regrown c2
  have C3r := cell_regrown c3
  have C4r := cell_regrown c4
  have C5r := cell_regrown c5
  have D0r := cell_regrown d0
  have D1r := cell_regrown d1
  have D2r := cell_regrown d2
  have D3r := cell_regrown d3
  have D4r := cell_regrown d4
  have D5r := cell_regrown d5
  have X0r := cell_regrown x0
  have X1r := cell_regrown x1
  have X2r := cell_regrown x2
  have X3r := cell_regrown x3
  have X4r := cell_regrown x4
  have X5r := cell_regrown x5
  have U0r := cell_regrown u0
  have V0r := cell_regrown v0
  have so := (SO.out.below t0 (Nat.le_refl _)).regrown
  have sl := (SL.out.below t0 (Nat.le_refl _)).regrown
  have to := (TO.out.below t0 (Nat.le_refl _)).regrown
  have tl := (TL.out.below t0 (Nat.le_refl _)).regrown
  have xo := (SO7.out.below t7 (Nat.le_refl _)).regrown
  have xl := (SL7.out.below t7 (Nat.le_refl _)).regrown
  have SOr := Lib.hid so
  have SLr := Lib.hid sl
  have TOr := Lib.hid to
  have TLr := Lib.hid tl
  have XOr := Lib.hid xo
  have XLr := Lib.hid xl
  have TT := Lib.hid tt
  clear so sl to tl xo xl tt t0 t7 t11 t14 hb8 y1 y2 yb ys hW bb17 bb14 bb11 bb7 hs17 c0 c1 c2 c3 c4 c5 d0 d1 d2 d3 d4 d5 x0 x1 x2 x3 x4 x5 u0 v0 n1 n2
  go_wp2_with fail
  refine Loose.wp_region_quiet_fast (by kernel_rfl) (by kernel_rfl) ?_
  (try simp only [List.append_eq, List.cons_append, List.nil_append])
  repeat (go_big_quiet_step (fail))
  go_big_quiet_step ((go_at_call 12; exact Calls.regrown_of (RF.out _ _ _ (XOr.out _ _) (XLr.out _ _))))
  repeat (go_big_quiet_step (fail))
  go_big_quiet_step ((go_at_call 12; exact Calls.regrown_of (RF.out _ _ _ (TOr.out _ _) (TLr.out _ _))))
  repeat (go_big_quiet_step (fail))
  go_big_quiet_step ((go_at_call 19; exact Calls.regrown_of (SM.out _ _ _ _ _ (XOr.out _ _) (XLr.out _ _) (TOr.out _ _) (TLr.out _ _))))
  repeat (go_big_quiet_step (fail))
  go_big_quiet_step ((go_at_call 17; exact Calls.regrown_of (R1.out _ _ _ (SOr.out _ _) (SLr.out _ _))))
  repeat (go_big_quiet_step (fail))
  go_big_quiet_step ((go_at_call 17; exact Calls.regrown_of (R2.out _)))
  repeat (go_big_quiet_step (fail))
  refine wpQuiet_nil ?_
  intro _ hw'
  obtain ⟨⟨dq, osq⟩, hw''⟩ := hw'
  subst hw''
  go_wp2_with fail
  go_ret
  exact ⟨rfl, below_step TT.out (below_regrown _ dq osq)⟩
end Go.Proofs.Ytieijelbflkpeaa.G
