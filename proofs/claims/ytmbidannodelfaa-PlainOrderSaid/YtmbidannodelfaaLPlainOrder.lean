/- PlainOrder: whatever the requests ahead, and the two, the law answers true. No condition. -/
import Derived.Test.YtmbidannodelfaaPo
import Derived.Test.YtmbidannodelfaaGTail
import Derived.Deep.RegionHeld
namespace Go.Proofs.Ytmbidannodelfaa.L
open Go.RowKit Go.Maps Go.Proofs.Ytmbidannodelfaa.G Go.Proofs.Ytmbidannodelfaa.WordPlain Go.Proofs.Ytmbidannodelfaa.Loose
set_option linter.unusedVariables false
set_option linter.unusedSimpArgs false

theorem PL.othero {w w' : World} {p b p' b' n now : Nat} {q : Int} {f : ByteArray → Option Ses} (h : PL w p' b' n now q f) (m : Mp p b w w') (h1 : p' ≠ p) (h2 : p' ≠ b) (h3 : b' ≠ p) (h4 : b' ≠ b) : PL w' p' b' n now q f :=
  h.keep (m.block _ h.lts.1 h1 h2) (m.block _ h.lts.2 h3 h4)
/-- both stores' blocks -/
structure Two (w w' : World) (p b p' b' : Nat) : Prop where
  os : w'.os = w.os
  tape : w'.tape = w.tape
  output : w'.output = w.output
  size : w.heap.size ≤ w'.heap.size
  block : ∀ i, i < w.heap.size → i ≠ p → i ≠ b → i ≠ p' → i ≠ b' → w'.heap[i]? = w.heap[i]?
theorem Two.refl (w : World) (p b p' b' : Nat) : Two w w p b p' b' := ⟨rfl, rfl, rfl, Nat.le_refl _, fun _ _ _ _ _ _ => rfl⟩
theorem Two.left {w w1 w2 : World} {p b p' b' : Nat} (h : Two w w1 p b p' b') (m : Mp p b w1 w2) : Two w w2 p b p' b' :=
  ⟨m.os.trans h.os, m.tape.trans h.tape, m.output.trans h.output, Nat.le_trans h.size m.size, fun i hi a c d e => (m.block i (Nat.lt_of_lt_of_le hi h.size) a c).trans (h.block i hi a c d e)⟩
theorem Two.right {w w1 w2 : World} {p b p' b' : Nat} (h : Two w w1 p b p' b') (m : Mp p' b' w1 w2) : Two w w2 p b p' b' :=
  ⟨m.os.trans h.os, m.tape.trans h.tape, m.output.trans h.output, Nat.le_trans h.size m.size, fun i hi a c d e => (m.block i (Nat.lt_of_lt_of_le hi h.size) d e).trans (h.block i hi a c d e)⟩
theorem Two.below {w w' : World} {p b p' b' B : Nat} (h : Two w w' p b p' b') (hp : B ≤ p) (hb : B ≤ b) (hp' : B ≤ p') (hb' : B ≤ b') (hB : B ≤ w.heap.size) : Below B w w' := ⟨h.os, h.tape, h.output, h.size, fun i hi => h.block i (by omega) (by omega) (by omega) (by omega) (by omega)⟩
theorem two_new (w1 w2 : World) (s : Nat) (hs : w1.heap.size = s + 2) (p b p' b' : Nat) (e1 : p = s + 1) (e2 : b = s) (e3 : p' = w1.heap.size + 1) (e4 : b' = w1.heap.size) : p' ≠ p ∧ p' ≠ b ∧ b' ≠ p ∧ b' ≠ b ∧ p ≠ p' ∧ p ≠ b' ∧ b ≠ p' ∧ b ≠ b' := by omega
theorem Tick_at (w : World) (p b n now u : Nat) (q : Int) (f : ByteArray → Option Ses) (t : Nat) (h : PL w p b n now q f) (hn : n ≤ 1000000) (ht : t < 18446744073709551616) (hu : u = addV now t) :
    Calls Try.prog 11 #[.pointer (some ⟨p, 0, none⟩), .int .u64 (t : Nat)] w fun e w' => (∃ d, e = .returned (.int .i64 d)) ∧ PL w' p b n u q f ∧ Mp p b w w' := by
  obtain ⟨ks, hk, hkl⟩ := h.map.keys
  have hid := fun k s (hs : f k = some s) => (h.ids k s hs).1
  have hge : now ≤ u := by rw [hu]; exact addV_ge now t h.nlt
  exact (Tick_val w p b n now q f t u _ _ h hn ht hu (livL_is hk hid) (livL_is hk hid) (livL_le _ _ _ _ hge) (Nat.le_trans (List.length_filterMap_le _ _) (by omega))).mono fun e w' ⟨h1, h2, h3⟩ => ⟨⟨_, h1⟩, h2, h3⟩
theorem PL.othl {w w' : World} {p b p' b' n now : Nat} {q : Int} {f : ByteArray → Option Ses} (h : PL w p' b' n now q f) (m : Mp p b w w') (d : p' ≠ p ∧ p' ≠ b ∧ b' ≠ p ∧ b' ≠ b ∧ p ≠ p' ∧ p ≠ b' ∧ b ≠ p' ∧ b ≠ b') : PL w' p' b' n now q f := PL.othero h m d.1 d.2.1 d.2.2.1 d.2.2.2.1
theorem PL.othr {w w' : World} {p b p' b' n now : Nat} {q : Int} {f : ByteArray → Option Ses} (h : PL w p b n now q f) (m : Mp p' b' w w') (d : p' ≠ p ∧ p' ≠ b ∧ b' ≠ p ∧ b' ≠ b ∧ p ≠ p' ∧ p ≠ b' ∧ b ≠ p' ∧ b ≠ b') : PL w' p b n now q f := PL.othero h m d.2.2.2.2.1 d.2.2.2.2.2.1 d.2.2.2.2.2.2.1 d.2.2.2.2.2.2.2
theorem Two.setRow {w V : World} {p b p' b' : Nat} (h : Two w V p b p' b') {A : Nat} (hA : w.heap.size ≤ A) (cs : Array Value) : Two w (V.setRow A cs) p b p' b' :=
  ⟨h.os, h.tape, h.output, by rw [setRow_size]; exact h.size, fun i hi a c d e => (setRow_other _ _ _ _ (by omega)).trans (h.block i hi a c d e)⟩
theorem below_srow {B : Nat} {w W : World} (h : Below B w W) {g : Nat} (hg : B ≤ g) (cs : Array Value) : Below B w (W.setRow g cs) :=
  ⟨h.os, h.tape, h.output, by rw [setRow_size]; exact h.size, fun i hi => (setRow_other _ _ _ _ (by omega)).trans (h.block i hi)⟩
def Row5 (B : Nat) (V : World) (A : Nat) (y : Rp) : Prop := V.heap[A]? = some (.cells y.row 41 (0, 0)) ∧ B ≤ A
theorem Row5.mp {B A p b : Nat} {V V' : World} {y : Rp} (h : Row5 B V A y) (m : Mp p b V V') (hp : p < B) (hb : b < B) : Row5 B V' A y := ⟨(m.block _ (lt_of_rowR h.1) (by have := h.2; omega) (by have := h.2; omega)).trans h.1, h.2⟩
theorem Row5.same {B A : Nat} {V : World} {y : Rp} (h : Row5 B V A y) (z : Rp) : Row5 B (V.setRow A z.row) A z := ⟨setRow_heap _ _ _ _ _ _ h.1, h.2⟩
theorem Row5.other {B A C : Nat} {V : World} {y : Rp} (h : Row5 B V A y) (hne : A ≠ C) (cs : Array Value) : Row5 B (V.setRow C cs) A y := ⟨(setRow_other _ _ _ _ hne).trans h.1, h.2⟩
theorem Row5.new {B : Nat} {V : World} (y : Rp) (h : B ≤ V.heap.size) : Row5 B (V.alloc (.cells y.row 41)) V.heap.size y := ⟨heap_alloc_new _ _, h⟩
theorem Row5.cells {B A : Nat} {W : World} {y : Rp} (h : Row5 B W A y) : W.cell? ⟨A, 0, none⟩ = some (.int .i64 y.err) ∧ W.cell? ⟨A, 1, none⟩ = some (.string y.va) ∧ W.cell? ⟨A, 2, none⟩ = some (.int .u64 (y.dl : Int)) :=
  ⟨(cell_of_row _ _ 0 _ _ _ h.1).trans rfl, (cell_of_row _ _ 1 _ _ _ h.1).trans rfl, (cell_of_row _ _ 2 _ _ _ h.1).trans rfl⟩
theorem PL.srow {w : World} {p b n now A B : Nat} {q : Int} {f : ByteArray → Option Ses} (h : PL w p b n now q f) (hp : p < B) (hb : b < B) (hA : B ≤ A) (cs : Array Value) : PL (w.setRow A cs) p b n now q f :=
  h.keep (setRow_other _ _ _ _ (by omega)) (setRow_other _ _ _ _ (by omega))
theorem stepX {w W V : World} {X : Nat} (hX : X = w.heap.size) (h : Below X w W) (k : Below W.heap.size W V) : Below X w V := by subst hX; exact stepR h k
theorem Mp.alo {p b : Nat} (W : World) (o : Obj) : Mp p b W (W.alloc o) := Mp.of_below ((Below.refl _ _).alloc (Nat.le_refl _) _)
theorem beqSo (a b : ByteArray) : ((a.toList == b.toList) = true ∧ a = b) ∨ ((a.toList == b.toList) = false ∧ a ≠ b) := by
  by_cases h : a = b
  · exact Or.inl ⟨by rw [h]; exact beq_self_eq_true _, h⟩
  · refine Or.inr ⟨beq_eq_false_iff_ne.2 (fun e => h ?_), h⟩
    rw [ByteArray.toList_eq, ByteArray.toList_eq] at e
    cases a; cases b
    simp only [ByteArray.mk.injEq]
    exact Array.toList_inj.1 e
theorem hd {p : Prop} (h : p) : Hid p := Lib.hid h
theorem belA {W u : World} {o : Obj} (h : u = W.alloc o) : Below W.heap.size W u := by rw [h]; exact (Below.refl _ _).alloc (Nat.le_refl _) _
theorem Two.sr {w V : World} {p b p' b' A S : Nat} (h : Two w V p b p' b') (hS : S = w.heap.size) (hA : S ≤ A) (cs : Array Value) : Two w (V.setRow A cs) p b p' b' := h.setRow (by omega) cs
theorem PL.srl {w : World} {p b n now A S : Nat} {q : Int} {f : ByteArray → Option Ses} {p' b' : Nat} (h : PL w p b n now q f) (d : p < S ∧ b < S ∧ p' < S ∧ b' < S) (hA : S ≤ A) (cs : Array Value) : PL (w.setRow A cs) p b n now q f := PL.srow h d.1 d.2.1 hA cs
theorem PL.srr {w : World} {p b n now A S : Nat} {q : Int} {f : ByteArray → Option Ses} {p' b' : Nat} (h : PL w p' b' n now q f) (d : p < S ∧ b < S ∧ p' < S ∧ b' < S) (hA : S ≤ A) (cs : Array Value) : PL (w.setRow A cs) p' b' n now q f := PL.srow h d.2.2.1 d.2.2.2 hA cs
abbrev rwp (e : Int) (v : ByteArray) (d : Nat) : Array Value := #[.int .i64 e, .string v, .int .u64 (d : Int)]
theorem split_key {F P : World → Nat → Nat → Prop} {T : Prop} (tree : (∀ V A B, F V A B → P V A B) → T) (key : ∀ V A B, F V A B → P V A B) : T := tree key
def livs (now : Nat) (s : Option Ses) : Bool := match s with | some s => decide (now < s.dl) | none => false
/-- what a request does, of what stands under its id alone -/
def r0 (now : Nat) (r : Rq) (s : Option Ses) : Rp :=
  if validE r ≠ 0 then Rp.bad (validE r)
  else if r.kind = 0 then (if livs now s then Rp.bad 4 else ⟨0, ⟨#[]⟩, ddl now r⟩)
  else if livs now s = false then Rp.bad 3
  else if r.kind = 1 then ⟨0, (s.getD Ses.zero).va, (s.getD Ses.zero).dl⟩
  else if r.kind = 2 then ⟨0, ⟨#[]⟩, ddl now r⟩
  else Rp.bad 0
def h0 (now : Nat) (r : Rq) (s : Option Ses) : Option Ses :=
  if validE r ≠ 0 then s
  else if r.kind = 0 then (if livs now s then s else some ⟨r.id, r.va, ddl now r⟩)
  else if livs now s = false then s
  else if r.kind = 1 then s
  else if r.kind = 2 then some ⟨r.id, (s.getD Ses.zero).va, ddl now r⟩
  else if r.kind = 3 then some ⟨r.id, r.va, (s.getD Ses.zero).dl⟩
  else none
theorem doR_loc (now : Nat) (q : Int) (f : ByteArray → Option Ses) (c : Nat) (r : Rq) (hq : ¬ q ≤ (c : Int)) : doR now q f c r = r0 now r (f r.id) := by
  unfold doR r0
  rw [if_neg hq]
  rfl
theorem upd_self (f : ByteArray → Option Ses) (k : ByteArray) : upd f k (f k) = f := by
  funext x
  unfold upd
  by_cases h : x = k
  · rw [if_pos h, h]
  · rw [if_neg h]
theorem doF_loc (now : Nat) (q : Int) (f : ByteArray → Option Ses) (c : Nat) (r : Rq) (hq : ¬ q ≤ (c : Int)) : doF now q f c r = upd f r.id (h0 now r (f r.id)) := by
  unfold doF h0
  rw [if_neg hq]
  by_cases hv : validE r ≠ 0
  · rw [if_pos hv, if_pos hv, upd_self]
  rw [if_neg hv, if_neg hv]
  by_cases hk : r.kind = 0
  · rw [if_pos hk, if_pos hk]
    by_cases hl : liv now f r.id = true
    · rw [if_pos hl, if_pos (show livs now (f r.id) = true from hl), upd_self]
    · rw [if_neg hl, if_neg (show ¬ livs now (f r.id) = true from hl)]
  rw [if_neg hk, if_neg hk]
  by_cases hl : liv now f r.id = false
  · rw [if_pos hl, if_pos (show livs now (f r.id) = false from hl), upd_self]
  rw [if_neg hl, if_neg (show ¬ livs now (f r.id) = false from hl)]
  by_cases k1 : r.kind = 1
  · rw [if_pos k1, if_pos k1, upd_self]
  rw [if_neg k1, if_neg k1]
  by_cases k2 : r.kind = 2
  · rw [if_pos k2, if_pos k2]
  rw [if_neg k2, if_neg k2]
  by_cases k3 : r.kind = 3
  · rw [if_pos k3, if_pos k3]
  rw [if_neg k3, if_neg k3]
theorem upd_at (f : ByteArray → Option Ses) (k x : ByteArray) (s : Option Ses) (h : x ≠ k) : upd f k s x = f x := by unfold upd; rw [if_neg h]
theorem upd_comm (f : ByteArray → Option Ses) (k x : ByteArray) (s t : Option Ses) (h : k ≠ x) : upd (upd f k s) x t = upd (upd f x t) k s := by
  funext y
  unfold upd
  by_cases h1 : y = x
  · by_cases h2 : y = k
    · exact absurd (h2.symm.trans h1) h
    · rw [if_pos h1, if_neg h2, if_pos h1]
  · rw [if_neg h1]
    by_cases h2 : y = k
    · rw [if_pos h2, if_pos h2]
    · rw [if_neg h2, if_neg h2, if_neg h1]
/-- Do, where the quota stops none -/
theorem Do_loc (w : World) (p b n now : Nat) (f : ByteArray → Option Ses) (r : Rq) (s g : Option Ses) (y : Rp) (h : PL w p b n now 1000 f) (hr : r.Kind) (hn : n < 1000) (hs : f r.id = s) (hy : y = r0 now r s) (hg : g = h0 now r s) :
    Calls Try.prog 14 #[.pointer (some ⟨p, 0, none⟩), .agg r.row] w fun e w' => e = .returned (.agg y.row) ∧ PL w' p b (n + 1) now 1000 (upd f r.id g) ∧ Mp p b w w' := by
  obtain ⟨L, hL, hl⟩ := h.ses
  have hq : ¬ (1000 : Int) ≤ (L.length : Int) := by omega
  have := Do_val w p b n now 1000 f r L h hr (by omega) hL
  rw [doR_loc now 1000 f L.length r hq, doF_loc now 1000 f L.length r hq, hs, ← hy, ← hg] at this
  exact this

set_option maxRecDepth 100000 in
set_option maxHeartbeats 16000000 in
theorem order_main (l : List Og) (v : Value) (ra rb : Rq) (w : World) (hv : LR 5 encO w v l) (hk0 : ∀ o ∈ l, o.Kind) (hra : ra.Kind) (hrb : rb.Kind) :
  Calls Try.prog 7 #[v, .agg ra.row, .agg rb.row] w fun e w' => e = .returned (.bool true) ∧ Below w.heap.size w w' := by
 obtain ⟨oa, cap, rfl, _, hx⟩ := hv
 obtain ⟨n, hn⟩ : ∃ n, n = l.length := ⟨_, rfl⟩
 have hcuta := fun W => CutR_val ra W
 have hcutb := fun W => CutR_val rb W
 have hca := hra.cut
 have hcb := hrb.cut
 obtain ⟨ca, hca'⟩ : ∃ c, c = ra.cut := ⟨_, rfl⟩
 obtain ⟨cb, hcb'⟩ : ∃ c, c = rb.cut := ⟨_, rfl⟩
 rw [← hca'] at hcuta hca
 rw [← hcb'] at hcutb hcb
 rw [← hn]
 have HX := Lib.hid hx
 have HN := Lib.hid hn
 have HK := Lib.hid hk0
 have HCA := Lib.hid hca
 have HCB := Lib.hid hcb
 obtain ⟨k1, i1, v1, x1⟩ := ra
 obtain ⟨k2, i2, v2, x2⟩ := rb
 obtain ⟨ka, ia, va, xa⟩ := ca
 obtain ⟨kb, ib, vb, xb⟩ := cb
 simp only [Rq.row] at hcuta hcutb ⊢
 have CUTA := Lib.hid hcuta
 have CUTB := Lib.hid hcutb
 clear hx hn hk0 hra hrb hca hcb hcuta hcutb hca' hcb'
 obtain ⟨W00, hW00⟩ : ∃ W, W = w.alloc (.cells #[.int .i64 k1, .string i1, .string v1, .float .f64 x1] 32) := ⟨_, rfl⟩
 obtain ⟨W0, hW0⟩ : ∃ W, W = W00.alloc (.cells #[.int .i64 k2, .string i2, .string v2, .float .f64 x2] 32) := ⟨_, rfl⟩
 obtain ⟨X, hX⟩ : ∃ X, X = w.heap.size := ⟨_, rfl⟩
 obtain ⟨Y, hY⟩ : ∃ Y, Y = W00.heap.size := ⟨_, rfl⟩
 have hYX : Y = X + 1 := by rw [hY, hW00, alloc_sizeR, hX]
 have hsz : W0.heap.size = X + 2 := by rw [hW0, alloc_sizeR, ← hY, hYX]
 have bb0 : Below X w W00 := by rw [hW00, hX]; exact (Below.refl w.heap.size w).alloc (Nat.le_refl _) _
 have bb1 : Below X w W0 := by rw [hW0]; exact bb0.alloc (by rw [← hY]; omega) _
 have nx : W0.heap[X]? = some (.cells #[.int .i64 k1, .string i1, .string v1, .float .f64 x1] 32 (0, 0)) := by
  have h := heap_alloc_new w (.cells #[.int .i64 k1, .string i1, .string v1, .float .f64 x1] 32)
  rw [← hW00, ← hX] at h
  have b := (Below.refl W00.heap.size W00).alloc (Nat.le_refl _) (.cells #[.int .i64 k2, .string i2, .string v2, .float .f64 x2] 32)
  rw [← hW0] at b
  exact (b.block X (by omega)).trans h
 have ny : W0.heap[Y]? = some (.cells #[.int .i64 k2, .string i2, .string v2, .float .f64 x2] 32 (0, 0)) := by
  rw [hW0, hY]; exact heap_alloc_new W00 _
 have NX := Lib.hid nx
 have NY := Lib.hid ny
 have B0 := Lib.hid bb1
 have HYX := Lib.hid hYX
 have HSZ := Lib.hid hsz
 have HNEW := Lib.hid (New_val W0 0 1000 (by omega))
 have HNEW2 := Lib.hid (fun W => New_val W 0 1000 (by omega))
 have HW00 := Lib.hid hW00
 have HW0 := Lib.hid hW0
 have HXX := Lib.hid hX
 have HYY := Lib.hid hY
 clear nx ny bb0 bb1 hYX hsz hW00 hW0 hX hY
 go_enter Try.func7, Try.ntmps7
 go_wp2_with fail
 rw [← HW00.out, ← HW0.out, ← HXX.out, ← HYX.out]
 clear HW00 HW0 HYY
 refine (HNEW.out).mono ?_; rintro e w0 ⟨rfl, pl, bl, hz⟩
 have hnew2 := HNEW2.out w0
 obtain ⟨p, hp⟩ : ∃ p, p = W0.heap.size + 1 := ⟨_, rfl⟩
 obtain ⟨b, hb⟩ : ∃ b, b = W0.heap.size := ⟨_, rfl⟩
 rw [← hp, ← hb] at pl
 rw [← hp]
 have PL0 := Lib.hid pl
 have BL0 := Lib.hid bl
 have HNEW3 := Lib.hid hnew2
 have HP := Lib.hid hp
 have HB := Lib.hid hb
 have HZ := Lib.hid hz
 clear hp hb pl bl hz hnew2 HNEW HNEW2
 go_wp2_with fail
 refine (HNEW3.out).mono ?_; rintro e w1 ⟨rfl, pl', bl', hz'⟩
 obtain ⟨p', hp'⟩ : ∃ p, p = w0.heap.size + 1 := ⟨_, rfl⟩
 obtain ⟨b', hb'⟩ : ∃ b, b = w0.heap.size := ⟨_, rfl⟩
 rw [← hp', ← hb'] at pl'
 rw [← hp']
 have DIS := Lib.hid (two_new w0 w1 W0.heap.size HZ.out p b p' b' HP.out HB.out hp' hb')
 have PLa := Lib.hid (PL0.out.below bl')
 have PLb := Lib.hid pl'
 have bl1 := stepR BL0.out bl'
 have LOW : Hid (Y < p ∧ Y < b ∧ Y < p' ∧ Y < b') := Lib.hid (by have := HP.out; have := HB.out; have := HZ.out; have := HSZ.out; have := HYX.out; omega)
 have n1 := (bl1.block _ (lt_of_rowR NX.out)).trans NX.out
 have n2 := (bl1.block _ (lt_of_rowR NY.out)).trans NY.out
 have hB1 : Below X w w1 := stepX HXX.out B0.out bl1
 obtain ⟨e0, e1, e2, e3⟩ : w1.cell? ⟨X, 0, none⟩ = some (.int .i64 k1) ∧ w1.cell? ⟨X, 1, none⟩ = some (.string i1) ∧ w1.cell? ⟨X, 2, none⟩ = some (.string v1) ∧ w1.cell? ⟨X, 3, none⟩ = some (.float .f64 x1) := ⟨(cell_of_row _ _ 0 _ _ _ n1).trans rfl, (cell_of_row _ _ 1 _ _ _ n1).trans rfl, (cell_of_row _ _ 2 _ _ _ n1).trans rfl, (cell_of_row _ _ 3 _ _ _ n1).trans rfl⟩
 have N1 := Lib.hid n1
 have N2 := Lib.hid n2
 have B1 := Lib.hid hB1
 clear pl' bl' hz' hp' hb' HNEW3 PL0 BL0 HZ HP HB bl1 n1 n2 hB1 NX NY
 go_wp2_with fail
 refine (CUTA.out _).mono ?_; rintro e w2 ⟨rfl, b2⟩
 have ONEA : Hid ((#[.int .i64 ka, .string ia, .string va, .float .f64 xa] : Array Value).all (·.oneCell') = true) := Lib.hid (by simp [Value.oneCell'])
 have ONEB : Hid ((#[.int .i64 kb, .string ib, .string vb, .float .f64 xb] : Array Value).all (·.oneCell') = true) := Lib.hid (by simp [Value.oneCell'])
 have n1 := (b2.block _ (lt_of_rowR N1.out)).trans N1.out
 have n2 := (b2.block _ (lt_of_rowR N2.out)).trans N2.out
 obtain ⟨w3, hw3⟩ : ∃ W, W = w2.setRow X #[.int .i64 ka, .string ia, .string va, .float .f64 xa] := ⟨_, rfl⟩
 have m1 := setRow_heap w2 X _ #[.int .i64 ka, .string ia, .string va, .float .f64 xa] _ _ n1
 have m2 := (setRow_other w2 X Y #[.int .i64 ka, .string ia, .string va, .float .f64 xa] (by have := HYX.out; omega)).trans n2
 have pla : PL (w2.setRow X #[.int .i64 ka, .string ia, .string va, .float .f64 xa]) p b 0 0 1000 (fun _ => none) := (PLa.out.below b2).keep (setRow_other _ _ _ _ (by have := HYX.out; have := LOW.out; omega)) (setRow_other _ _ _ _ (by have := HYX.out; have := LOW.out; omega))
 have plb : PL (w2.setRow X #[.int .i64 ka, .string ia, .string va, .float .f64 xa]) p' b' 0 0 1000 (fun _ => none) := (PLb.out.below b2).keep (setRow_other _ _ _ _ (by have := HYX.out; have := LOW.out; omega)) (setRow_other _ _ _ _ (by have := HYX.out; have := LOW.out; omega))
 have bw := below_srow (stepX HXX.out B1.out b2) (Nat.le_refl X) #[.int .i64 ka, .string ia, .string va, .float .f64 xa]
 rw [← hw3] at m1 m2 pla plb bw
 have NN := Lib.hid n1
 have M1 := Lib.hid m1
 have M2 := Lib.hid m2
 have PLa3 := Lib.hid pla
 have PLb3 := Lib.hid plb
 have B3 := Lib.hid bw
 have HW3 := Lib.hid hw3
 clear b2 n1 n2 m1 m2 pla plb bw hw3 e0 e1 e2 e3 PLa PLb N1 N2 B1
 obtain ⟨e0, e1, e2, e3⟩ : w3.cell? ⟨Y, 0, none⟩ = some (.int .i64 k2) ∧ w3.cell? ⟨Y, 1, none⟩ = some (.string i2) ∧ w3.cell? ⟨Y, 2, none⟩ = some (.string v2) ∧ w3.cell? ⟨Y, 3, none⟩ = some (.float .f64 x2) := ⟨(cell_of_row _ _ 0 _ _ _ M2.out).trans rfl, (cell_of_row _ _ 1 _ _ _ M2.out).trans rfl, (cell_of_row _ _ 2 _ _ _ M2.out).trans rfl, (cell_of_row _ _ 3 _ _ _ M2.out).trans rfl⟩
 rw [HW3.out] at e0 e1 e2 e3
 go_wp2_with (refine wpList_store_row rfl 32 _ _ rfl X #[.int .i64 ka, .string ia, .string va, .float .f64 xa] rfl rfl _ _ NN.out (by kernel_rfl) rfl ONEA.out ?_)
 rw [← HW3.out]
 clear HW3 NN e0 e1 e2 e3
 refine (CUTB.out _).mono ?_; rintro e w4 ⟨rfl, b2⟩
 have n1 := (b2.block _ (lt_of_rowR M1.out)).trans M1.out
 have n2 := (b2.block _ (lt_of_rowR M2.out)).trans M2.out
 obtain ⟨w5, hw5⟩ : ∃ W, W = w4.setRow Y #[.int .i64 kb, .string ib, .string vb, .float .f64 xb] := ⟨_, rfl⟩
 have m2 := setRow_heap w4 Y _ #[.int .i64 kb, .string ib, .string vb, .float .f64 xb] _ _ n2
 have m1 := (setRow_other w4 Y X #[.int .i64 kb, .string ib, .string vb, .float .f64 xb] (by have := HYX.out; omega)).trans n1
 have pla : PL (w4.setRow Y #[.int .i64 kb, .string ib, .string vb, .float .f64 xb]) p b 0 0 1000 (fun _ => none) := (PLa3.out.below b2).keep (setRow_other _ _ _ _ (by have := LOW.out; omega)) (setRow_other _ _ _ _ (by have := LOW.out; omega))
 have plb : PL (w4.setRow Y #[.int .i64 kb, .string ib, .string vb, .float .f64 xb]) p' b' 0 0 1000 (fun _ => none) := (PLb3.out.below b2).keep (setRow_other _ _ _ _ (by have := LOW.out; omega)) (setRow_other _ _ _ _ (by have := LOW.out; omega))
 have bw := below_srow (stepX HXX.out B3.out b2) (show X ≤ Y by have := HYX.out; omega) #[.int .i64 kb, .string ib, .string vb, .float .f64 xb]
 rw [← hw5] at m1 m2 pla plb bw
 have NN := Lib.hid n2
 have M15 := Lib.hid m1
 have M25 := Lib.hid m2
 have PLa5 := Lib.hid pla
 have PLb5 := Lib.hid plb
 have B5 := Lib.hid bw
 have HW5 := Lib.hid hw5
 clear b2 n1 n2 m1 m2 pla plb bw hw5 PLa3 PLb3 M1 M2 B3
 have rx : ∀ V : World, V.heap[X]? = some (.cells #[.int .i64 ka, .string ia, .string va, .float .f64 xa] 32 (0, 0)) → V.cell? ⟨X, 0, none⟩ = some (.int .i64 ka) ∧ V.cell? ⟨X, 1, none⟩ = some (.string ia) ∧ V.cell? ⟨X, 2, none⟩ = some (.string va) ∧ V.cell? ⟨X, 3, none⟩ = some (.float .f64 xa) := fun V n1 => ⟨(cell_of_row _ _ 0 _ _ _ n1).trans rfl, (cell_of_row _ _ 1 _ _ _ n1).trans rfl, (cell_of_row _ _ 2 _ _ _ n1).trans rfl, (cell_of_row _ _ 3 _ _ _ n1).trans rfl⟩
 have ry : ∀ V : World, V.heap[Y]? = some (.cells #[.int .i64 kb, .string ib, .string vb, .float .f64 xb] 32 (0, 0)) → V.cell? ⟨Y, 0, none⟩ = some (.int .i64 kb) ∧ V.cell? ⟨Y, 1, none⟩ = some (.string ib) ∧ V.cell? ⟨Y, 2, none⟩ = some (.string vb) ∧ V.cell? ⟨Y, 3, none⟩ = some (.float .f64 xb) := fun V n1 => ⟨(cell_of_row _ _ 0 _ _ _ n1).trans rfl, (cell_of_row _ _ 1 _ _ _ n1).trans rfl, (cell_of_row _ _ 2 _ _ _ n1).trans rfl, (cell_of_row _ _ 3 _ _ _ n1).trans rfl⟩
 have RX := Lib.hid rx
 have RY := Lib.hid ry
 clear rx ry
 obtain ⟨e0, e1, e2, e3⟩ := RX.out w5 M15.out
 obtain ⟨g0, g1, g2, g3⟩ := RY.out w5 M25.out
 rw [HW5.out] at e0 e1 e2 e3 g0 g1 g2 g3
 by_cases hids : ia = ib
 ·have q1 : (ia.toList == ib.toList) = true := by rcases beqSo ia ib with h | h; exact h.1; exact absurd hids h.2
  have q2 : (ia = ib) = True := eq_true hids
  clear hids
  go_wp2_with (refine wpList_store_row rfl 32 _ _ rfl Y #[.int .i64 kb, .string ib, .string vb, .float .f64 xb] rfl rfl _ _ NN.out (by kernel_rfl) rfl ONEB.out ?_)
  rw [← HW5.out]
  refine (fixed_val _).mono ?_; rintro e u6 ⟨rfl, c6⟩
  go_wp2_with fail
  go_ret
  exact ⟨rfl, by rw [← HXX.out]; exact stepX HXX.out B5.out c6⟩
 have q1 : (ia.toList == ib.toList) = false := by rcases beqSo ia ib with h | h; exact absurd h.2 hids; exact h.1
 have q2 : (ia = ib) = False := eq_false hids
 have HIDS := Lib.hid hids
 clear hids
 go_wp2_with (refine wpList_store_row rfl 32 _ _ rfl Y #[.int .i64 kb, .string ib, .string vb, .float .f64 xb] rfl rfl _ _ NN.out (by kernel_rfl) rfl ONEB.out ?_)
 rw [← HW5.out]
 clear HW5 NN e0 e1 e2 e3 g0 g1 g2 g3 q1 q2
 obtain ⟨S5, hS5⟩ : ∃ s, s = w5.heap.size := ⟨_, rfl⟩
 have LT5 : Hid (p < S5 ∧ b < S5 ∧ p' < S5 ∧ b' < S5) := Lib.hid (by rw [hS5]; exact ⟨PLa5.out.lts.1, PLa5.out.lts.2, PLb5.out.lts.1, PLb5.out.lts.2⟩)
 have HS5 := Lib.hid hS5
 clear hS5
 have rowX : ∀ V, Two w5 V p b p' b' → V.heap[X]? = some (.cells #[.int .i64 ka, .string ia, .string va, .float .f64 xa] 32 (0, 0)) := fun V h => (h.block X (lt_of_rowR M15.out) (by have := LOW.out; have := HYX.out; omega) (by have := LOW.out; have := HYX.out; omega) (by have := LOW.out; have := HYX.out; omega) (by have := LOW.out; have := HYX.out; omega)).trans M15.out
 have rowY : ∀ V, Two w5 V p b p' b' → V.heap[Y]? = some (.cells #[.int .i64 kb, .string ib, .string vb, .float .f64 xb] 32 (0, 0)) := fun V h => (h.block Y (lt_of_rowR M25.out) (by have := LOW.out; omega) (by have := LOW.out; omega) (by have := LOW.out; omega) (by have := LOW.out; omega)).trans M25.out
 have ROWX := Lib.hid rowX
 have ROWY := Lib.hid rowY
 clear rowX rowY
 go_loopw [9] (fun j wr => ∃ (s m now : Nat) (f : ByteArray → Option Ses), s ≤ n ∧ s ≤ 20 ∧ j = .int .i64 s ∧ m = s ∧ PL wr p b m now 1000 f ∧ PL wr p' b' m now 1000 f ∧ Two w5 wr p b p' b') (fun j _ => n - (intOf j).toNat)
 case atStart => exact ⟨0, 0, 0, _, by omega, by omega, rfl, rfl, PLa5.out, PLb5.out, Two.refl _ _ _ _ _⟩
 case round =>
  obtain ⟨s, m, now, f, hs, hs30, rfl, hm, hpl, hpl', htw⟩ := hrel
  have PLr := Lib.hid hpl
  have PLs := Lib.hid hpl'
  have TW := Lib.hid htw
  have HM := Lib.hid hm
  have HS20 := Lib.hid hs30
  clear hpl hpl' htw hm
  by_cases hlt : s < n
  ·have hkn : (s : Int) < (n : Int) := by omega
   by_cases hlt30 : s < 20
   ·have hk30 : (s : Int) < 20 := by omega
    have hsl : s < l.length := by have := HN.out; omega
    obtain ⟨bb, off, hoa, hcell⟩ := HX.out s hsl
    have hok := HK.out l[s] (List.getElem_mem hsl)
    obtain ⟨o, ho⟩ : ∃ o, o = l[s] := ⟨_, rfl⟩
    rw [← ho] at hcell hok
    obtain ⟨⟨ok, oi, ov, ox⟩, ot⟩ := o
    have BW : ∀ V, Two w5 V p b p' b' → Below X w V := fun V hV => B5.out.trans (hV.below (B := X) (by have := LOW.out; have := HYX.out; omega) (by have := LOW.out; have := HYX.out; omega) (by have := LOW.out; have := HYX.out; omega) (by have := LOW.out; have := HYX.out; omega) (by have := B5.out.size; have := HXX.out; omega))
    have hl0 := lt_of_cellR (hcell 0 _ rfl)
    have cells : ∀ j u, (encO ⟨⟨ok, oi, ov, ox⟩, ot⟩)[j]? = some u → ∀ V, Two w5 V p b p' b' → V.cell? ⟨bb, off + s * 5 + j, none⟩ = some u := fun j u hu V hV => by
     have hbv := BW V hV
     rw [HXX.out] at hbv
     exact (hbv.cell (p := ⟨bb, off + s * 5 + j, none⟩) hl0).trans (hcell j u hu)
    have d0 := cells 0 _ rfl
    have d1 := cells 1 _ rfl
    have d2 := cells 2 _ rfl
    have d3 := cells 3 _ rfl
    have d4 := cells 4 _ rfl
    simp only [Nat.add_zero] at d0
    have D0 := Lib.hid d0
    have D1 := Lib.hid d1
    have D2 := Lib.hid d2
    have D3 := Lib.hid d3
    have D4 := Lib.hid d4
    have hcutr := fun W => CutR_val ⟨ok, oi, ov, ox⟩ W
    have hrc := hok.r.cut
    have HOT := Lib.hid hok.t
    obtain ⟨cc, hcc⟩ : ∃ c, c = Rq.cut ⟨ok, oi, ov, ox⟩ := ⟨_, rfl⟩
    rw [← hcc] at hcutr hrc
    obtain ⟨u, hu⟩ : ∃ u, u = addV now ot := ⟨_, rfl⟩
    have HU := Lib.hid hu
    obtain ⟨c0, hc0⟩ : ∃ c : Nat, c = c := ⟨0, rfl⟩
    obtain ⟨y, hy⟩ : ∃ y, y = r0 u cc (f cc.id) := ⟨_, rfl⟩
    obtain ⟨g, hg⟩ : ∃ g, g = upd f cc.id (h0 u cc (f cc.id)) := ⟨_, rfl⟩
    have hdo : ∀ (W : World) (pp bb : Nat), PL W pp bb m u 1000 f → _ := fun W pp bb hW => Do_loc W pp bb m u f cc _ _ y hW hrc (by have := HM.out; omega) rfl hy rfl
    rw [← hg] at hdo
    obtain ⟨dk, di, dv, dx⟩ := cc
    obtain ⟨ye, yv, yd⟩ := y
    simp only [Rq.row, Rp.row] at hcutr hdo
    have HDO := Lib.hid hdo
    have HCR := Lib.hid hcutr
    subst hoa
    have c4 := d4 wr TW.out
    clear cells hcell ho hok BW hcutr hrc hcc hl0 hdo hu hy hg d0 d1 d2 d3 d4 hc0
    go_wp2_with fail
    refine (Tick_at wr p b m now u 1000 f ot PLr.out (by have := HM.out; omega) HOT.out HU.out).mono ?_; rintro e w6 ⟨⟨t6, rfl⟩, pl6, mp6⟩
    have PL6 := Lib.hid pl6
    have PR6 := Lib.hid (PL.othero PLs.out mp6 DIS.out.1 DIS.out.2.1 DIS.out.2.2.1 DIS.out.2.2.2.1)
    have TW6 := Lib.hid (TW.out.left mp6)
    have c4 := D4.out w6 TW6.out
    clear pl6 mp6
    go_wp2_with fail
    refine (Tick_at w6 p' b' m now u 1000 f ot PR6.out (by have := HM.out; omega) HOT.out HU.out).mono ?_; rintro e w7 ⟨⟨t7, rfl⟩, pl7, mp7⟩
    have PR7 := Lib.hid pl7
    have PL7 := Lib.hid (PL.othero PL6.out mp7 DIS.out.2.2.2.2.1 DIS.out.2.2.2.2.2.1 DIS.out.2.2.2.2.2.2.1 DIS.out.2.2.2.2.2.2.2)
    have TW7 := Lib.hid (TW6.out.right mp7)
    clear pl7 mp7 c4 PL6 PR6 TW6
    go_wp2_with fail
    have d0 := D0.out
    have d1 := D1.out
    have d2 := D2.out
    have d3 := D3.out
    refine wp_region_held (S := fun V => Two w5 V p b p' b') (by kernel_rfl) ?_
    have hS0 : Two w5 { w7 with drawn := w7.drawn + 1 } p b p' b' := ⟨TW7.out.os, TW7.out.tape, TW7.out.output, TW7.out.size, TW7.out.block⟩
    refine wpAnyH_take (i := 0) (v := .pointer (some ⟨p, 0, none⟩)) rfl (by kernel_rfl) ?_ ?_ (fun _ _ _ h => h) (Or.inl ⟨by rfl, ?_⟩) hS0 ?_
    · kernel_rfl
    · kernel_rfl
    · intro V hV; go_simp
    refine wpAnyH_take (i := 1) (v := .slice (some ⟨bb, off, none⟩) n cap) rfl (by kernel_rfl) ?_ ?_ (fun _ _ _ h => h) (Or.inl ⟨by rfl, ?_⟩) hS0 ?_
    · kernel_rfl
    · kernel_rfl
    · intro V hV; go_simp
    refine wpAnyH_take (i := 2) (v := .int .i64 (s : Int)) rfl (by kernel_rfl) ?_ ?_ (fun _ _ _ h => h) (Or.inl ⟨by rfl, ?_⟩) hS0 ?_
    · kernel_rfl
    · kernel_rfl
    · intro V hV; go_simp
    refine wpAnyH_take (i := 3) (v := .pointer (some ⟨bb, off + s * 5, none⟩)) rfl (by kernel_rfl) ?_ ?_ (fun _ _ _ h => h) (Or.inl ⟨by rfl, ?_⟩) hS0 ?_
    · kernel_rfl
    · kernel_rfl
    · intro V hV; go_simp
    refine wpAnyH_take (i := 4) (v := .pointer (some ⟨bb, off + s * 5, none⟩)) rfl (by kernel_rfl) ?_ ?_ (fun _ _ _ h => h) (Or.inl ⟨by rfl, ?_⟩) hS0 ?_
    · kernel_rfl
    · kernel_rfl
    · intro V hV; go_simp
    refine wpAnyH_take (i := 5) (v := .agg #[.int .i64 ok, .string oi, .string ov, .float .f64 ox]) rfl (by kernel_rfl) ?_ ?_ (fun _ _ _ h => h) (Or.inl ⟨by rfl, ?_⟩) hS0 ?_
    · kernel_rfl
    · kernel_rfl
    · intro V hV; go_simp
    refine wpAnyH_take (i := 8) (v := .pointer (some ⟨p', 0, none⟩)) rfl (by kernel_rfl) ?_ ?_ (fun _ _ _ h => h) (Or.inl ⟨by rfl, ?_⟩) hS0 ?_
    · kernel_rfl
    · kernel_rfl
    · intro V hV; go_simp
    refine wpAnyH_take (i := 9) (v := .slice (some ⟨bb, off, none⟩) n cap) rfl (by kernel_rfl) ?_ ?_ (fun _ _ _ h => h) (Or.inl ⟨by rfl, ?_⟩) hS0 ?_
    · kernel_rfl
    · kernel_rfl
    · intro V hV; go_simp
    refine wpAnyH_take (i := 10) (v := .int .i64 (s : Int)) rfl (by kernel_rfl) ?_ ?_ (fun _ _ _ h => h) (Or.inl ⟨by rfl, ?_⟩) hS0 ?_
    · kernel_rfl
    · kernel_rfl
    · intro V hV; go_simp
    refine wpAnyH_take (i := 11) (v := .pointer (some ⟨bb, off + s * 5, none⟩)) rfl (by kernel_rfl) ?_ ?_ (fun _ _ _ h => h) (Or.inl ⟨by rfl, ?_⟩) hS0 ?_
    · kernel_rfl
    · kernel_rfl
    · intro V hV; go_simp
    refine wpAnyH_take (i := 12) (v := .pointer (some ⟨bb, off + s * 5, none⟩)) rfl (by kernel_rfl) ?_ ?_ (fun _ _ _ h => h) (Or.inl ⟨by rfl, ?_⟩) hS0 ?_
    · kernel_rfl
    · kernel_rfl
    · intro V hV; go_simp
    refine wpAnyH_take (i := 13) (v := .agg #[.int .i64 ok, .string oi, .string ov, .float .f64 ox]) rfl (by kernel_rfl) ?_ ?_ (fun _ _ _ h => h) (Or.inl ⟨by rfl, ?_⟩) hS0 ?_
    · kernel_rfl
    · kernel_rfl
    · intro V hV; go_simp
    obtain ⟨Wd, hWd⟩ : ∃ x, x = { w7 with drawn := w7.drawn + 1 } := ⟨_, rfl⟩
    have bd : Below w7.heap.size w7 Wd := by rw [hWd]; exact ⟨rfl, rfl, rfl, Nat.le_refl _, fun _ _ => rfl⟩
    rw [← hWd]
    have PLd := Lib.hid (PL7.out.below bd)
    have PRd := Lib.hid (PR7.out.below bd)
    have TWd := Lib.hid (TW7.out.left (Mp.of_below (p := p) (b := b) bd))
    clear hWd hS0 bd d0 d1 d2 d3 PL7 PR7 TW7
    refine wpAnyH_ready (rs := [6]) (by kernel_rfl) (by simp) ?_
    refine AllReadyH.cons rfl (fun K hK => ?_) AllReadyH.nil
    go_simp
    refine (HCR.out _).mono ?_; rintro e v1 ⟨rfl, b1⟩
    have PLe := Lib.hid (PLd.out.below b1)
    have PRe := Lib.hid (PRd.out.below b1)
    have TWe := Lib.hid (TWd.out.left (Mp.of_below (p := p) (b := b) b1))
    clear b1
    (try go_simp)
    refine hK.out _ _ TWe.out (fun _ => ?_)
    clear hK K
    refine wpAnyH_ready (rs := [7]) (by kernel_rfl) (by simp) ?_
    refine AllReadyH.cons rfl (fun K hK => ?_) AllReadyH.nil
    go_simp
    refine (HDO.out v1 p b PLe.out).mono ?_; rintro e v2 ⟨rfl, pl_, mp_⟩
    have PLg := Lib.hid pl_
    have PRg := Lib.hid (PL.othero PRe.out mp_ DIS.out.1 DIS.out.2.1 DIS.out.2.2.1 DIS.out.2.2.2.1)
    have TWg := Lib.hid (TWe.out.left mp_)
    clear pl_ mp_
    (try go_simp)
    refine hK.out _ _ TWg.out (fun _ => ?_)
    clear hK K
    refine wpAnyH_ready (rs := [14]) (by kernel_rfl) (by simp) ?_
    refine AllReadyH.cons rfl (fun K hK => ?_) AllReadyH.nil
    go_simp
    refine (HCR.out _).mono ?_; rintro e v3 ⟨rfl, b1⟩
    have PLi := Lib.hid (PLg.out.below b1)
    have PRi := Lib.hid (PRg.out.below b1)
    have TWi := Lib.hid (TWg.out.left (Mp.of_below (p := p) (b := b) b1))
    clear b1
    (try go_simp)
    refine hK.out _ _ TWi.out (fun _ => ?_)
    clear hK K
    refine wpAnyH_ready (rs := [15]) (by kernel_rfl) (by simp) ?_
    refine AllReadyH.cons rfl (fun K hK => ?_) AllReadyH.nil
    go_simp
    refine (HDO.out v3 p' b' PRi.out).mono ?_; rintro e v4 ⟨rfl, pl_, mp_⟩
    have PRj := Lib.hid pl_
    have PLj := Lib.hid (PL.othero PLi.out mp_ DIS.out.2.2.2.2.1 DIS.out.2.2.2.2.2.1 DIS.out.2.2.2.2.2.2.1 DIS.out.2.2.2.2.2.2.2)
    have TWj := Lib.hid (TWi.out.right mp_)
    clear pl_ mp_
    (try go_simp)
    refine hK.out _ _ TWj.out (fun _ => ?_)
    clear hK K
    refine wpAnyH_ready (rs := [16]) (by kernel_rfl) (by simp) ?_
    refine AllReadyH.cons rfl (fun K hK => ?_) AllReadyH.nil
    go_simp
    refine hK.out _ _ TWj.out (fun _ => ?_)
    clear hK K
    refine wpAnyH_done (by kernel_rfl) ?_ _
    go_wp2_with fail
    go_roundw
    case rel => exact ⟨s + 1, m + 1, u, _, by omega, by omega, by go_num, by rw [HM.out], PLj.out, PRj.out, TWj.out⟩
    case measure => simp [intOf]; omega
   ·have hk30 : ¬ (s : Int) < 20 := by omega
    clear M15 M25 HX HK
    have hm22 : m ≤ 20 := by have := HM.out; have := HS20.out; omega
    obtain ⟨ya, hya⟩ : ∃ y, y = r0 now ⟨ka, ia, va, xa⟩ (f ia) := ⟨_, rfl⟩
    obtain ⟨yb, hyb⟩ : ∃ y, y = r0 now ⟨kb, ib, vb, xb⟩ (f ib) := ⟨_, rfl⟩
    obtain ⟨ga, hga⟩ : ∃ g, g = h0 now ⟨ka, ia, va, xa⟩ (f ia) := ⟨_, rfl⟩
    obtain ⟨gb, hgb⟩ : ∃ g, g = h0 now ⟨kb, ib, vb, xb⟩ (f ib) := ⟨_, rfl⟩
    obtain ⟨fa, hfa⟩ : ∃ g, g = upd f ia ga := ⟨_, rfl⟩
    obtain ⟨fb, hfb⟩ : ∃ g, g = upd f ib gb := ⟨_, rfl⟩
    obtain ⟨fab, hfab⟩ : ∃ g, g = upd fa ib gb := ⟨_, rfl⟩
    have hfba : upd fb ia ga = fab := by rw [hfab, hfa, hfb]; exact (upd_comm f ia ib ga gb HIDS.out).symm
    have dA1 : ∀ W, PL W p b m now 1000 f → _ := fun W hW => Do_loc W p b m now f ⟨ka, ia, va, xa⟩ (f ia) ga ya hW HCA.out (by omega) rfl hya hga
    have dB1 : ∀ W, PL W p b (m + 1) now 1000 fa → _ := fun W hW => Do_loc W p b (m + 1) now fa ⟨kb, ib, vb, xb⟩ (f ib) gb yb hW HCB.out (by omega) (by rw [hfa]; exact upd_at f ia ib ga (Ne.symm HIDS.out)) hyb hgb
    have dB2 : ∀ W, PL W p' b' m now 1000 f → _ := fun W hW => Do_loc W p' b' m now f ⟨kb, ib, vb, xb⟩ (f ib) gb yb hW HCB.out (by omega) rfl hyb hgb
    have dA2 : ∀ W, PL W p' b' (m + 1) now 1000 fb → _ := fun W hW => Do_loc W p' b' (m + 1) now fb ⟨ka, ia, va, xa⟩ (f ia) ga ya hW HCA.out (by omega) (by rw [hfb]; exact upd_at f ib ia gb HIDS.out) hya hga
    simp only [← hfa] at dA1
    simp only [← hfab] at dB1
    simp only [← hfb] at dB2
    simp only [hfba] at dA2
    obtain ⟨yae, yav, yad⟩ := ya
    obtain ⟨ybe, ybv, ybd⟩ := yb
    simp only [Rq.row, Rp.row] at dA1 dB1 dB2 dA2
    have DA1 := Lib.hid dA1
    have DB1 := Lib.hid dB1
    have DB2 := Lib.hid dB2
    have DA2 := Lib.hid dA2
    have HM22 := Lib.hid hm22
    have ONEya : Hid ((#[.int .i64 yae, .string yav, .int .u64 (yad : Int)] : Array Value).all (·.oneCell') = true) := Lib.hid (by simp [Value.oneCell'])
    have ONEyb : Hid ((#[.int .i64 ybe, .string ybv, .int .u64 (ybd : Int)] : Array Value).all (·.oneCell') = true) := Lib.hid (by simp [Value.oneCell'])
    clear dA1 dB1 dB2 dA2 hya hyb hga hgb hfa hfb hfab hfba hm22
    go_wp2_with fail
    refine wp_region_held (S := fun V => Two w5 V p b p' b') (by kernel_rfl) ?_
    have hS0 : Two w5 { wr with drawn := wr.drawn + 1 } p b p' b' := ⟨TW.out.os, TW.out.tape, TW.out.output, TW.out.size, TW.out.block⟩
    have xc : ∀ V, Two w5 V p b p' b' → V.cell? ⟨X, 0, none⟩ = some (.int .i64 ka) ∧ V.cell? ⟨X, 1, none⟩ = some (.string ia) ∧ V.cell? ⟨X, 2, none⟩ = some (.string va) ∧ V.cell? ⟨X, 3, none⟩ = some (.float .f64 xa) := fun V h => RX.out V (ROWX.out V h)
    have yc : ∀ V, Two w5 V p b p' b' → V.cell? ⟨Y, 0, none⟩ = some (.int .i64 kb) ∧ V.cell? ⟨Y, 1, none⟩ = some (.string ib) ∧ V.cell? ⟨Y, 2, none⟩ = some (.string vb) ∧ V.cell? ⟨Y, 3, none⟩ = some (.float .f64 xb) := fun V h => RY.out V (ROWY.out V h)
    have XC := Lib.hid xc
    have YC := Lib.hid yc
    clear xc yc
    have e0 := fun V h => (XC.out V h).1
    have e1 := fun V h => (XC.out V h).2.1
    have e2 := fun V h => (XC.out V h).2.2.1
    have e3 := fun V h => (XC.out V h).2.2.2
    have g0 := fun V h => (YC.out V h).1
    have g1 := fun V h => (YC.out V h).2.1
    have g2 := fun V h => (YC.out V h).2.2.1
    have g3 := fun V h => (YC.out V h).2.2.2
    refine wpAnyH_take (i := 0) (v := .pointer (some ⟨p, 0, none⟩)) rfl (by kernel_rfl) ?_ ?_ (fun _ _ _ h => h) (Or.inl ⟨by rfl, ?_⟩) hS0 ?_
    · kernel_rfl
    · kernel_rfl
    · intro V hV; go_simp
    refine wpAnyH_take (i := 1) (v := .agg #[.int .i64 ka, .string ia, .string va, .float .f64 xa]) rfl (by kernel_rfl) ?_ ?_ (fun _ _ _ h => h) (Or.inl ⟨by rfl, ?_⟩) hS0 ?_
    · kernel_rfl
    · kernel_rfl
    · intro V hV; go_simp
    refine wpAnyH_take (i := 3) (v := .pointer (some ⟨p, 0, none⟩)) rfl (by kernel_rfl) ?_ ?_ (fun _ _ _ h => h) (Or.inl ⟨by rfl, ?_⟩) hS0 ?_
    · kernel_rfl
    · kernel_rfl
    · intro V hV; go_simp
    refine wpAnyH_take (i := 4) (v := .agg #[.int .i64 kb, .string ib, .string vb, .float .f64 xb]) rfl (by kernel_rfl) ?_ ?_ (fun _ _ _ h => h) (Or.inl ⟨by rfl, ?_⟩) hS0 ?_
    · kernel_rfl
    · kernel_rfl
    · intro V hV; go_simp
    obtain ⟨Wd, hWd⟩ : ∃ x, x = { wr with drawn := wr.drawn + 1 } := ⟨_, rfl⟩
    have bd : Below wr.heap.size wr Wd := by rw [hWd]; exact ⟨rfl, rfl, rfl, Nat.le_refl _, fun _ _ => rfl⟩
    rw [← hWd]
    have PLd := Lib.hid (PLr.out.below bd)
    have PRd := Lib.hid (PLs.out.below bd)
    have TWd := Lib.hid (TW.out.left (Mp.of_below (p := p) (b := b) bd))
    clear hWd hS0 bd e0 e1 e2 e3 g0 g1 g2 g3 PLr PLs TW
    obtain ⟨Fl, hFl⟩ : ∃ F : World → Nat → Nat → Prop, F = fun V A B => PL V p b (m + 1 + 1) now 1000 fab ∧ PL V p' b' m now 1000 f ∧ Two w5 V p b p' b' ∧ Row5 S5 V A ⟨yae, yav, yad⟩ ∧ Row5 S5 V B ⟨ybe, ybv, ybd⟩ := ⟨_, rfl⟩
    have HFl : Hid (∀ V A B, PL V p b (m + 1 + 1) now 1000 fab → PL V p' b' m now 1000 f → Two w5 V p b p' b' → Row5 S5 V A ⟨yae, yav, yad⟩ → Row5 S5 V B ⟨ybe, ybv, ybd⟩ → Fl V A B) := Lib.hid (by rw [hFl]; exact fun V A B a b c d e => ⟨a, b, c, d, e⟩)
    have HFl2 := Lib.hid hFl
    clear hFl
    apply split_key (F := Fl)
    ·intro key
     refine wpAnyH_ready (rs := [2, 6, 7]) (by kernel_rfl) (by simp) ?_
     refine AllReadyH.cons rfl (fun K hK => ?_) (AllReadyH.cons rfl (fun K hK => ?_) (AllReadyH.cons rfl (fun K hK => ?_) (AllReadyH.nil)))
     ·go_simp
      refine (DA1.out Wd PLd.out).mono ?_; rintro e u_1 ⟨rfl, pl_, mp_⟩
      have PL_1 := hd pl_
      have PR_1 := hd (PL.othl PRd.out mp_ DIS.out)
      have TW_1 := hd (TWd.out.left mp_)
      clear pl_ mp_
      (try go_simp)
      refine hK.out _ _ TW_1.out (fun _ => ?_)
      clear hK K
      refine wpAnyH_ready (rs := [5, 6, 7]) (by kernel_rfl) (by simp) ?_
      refine AllReadyH.cons rfl (fun K hK => ?_) (AllReadyH.cons rfl (fun K hK => ?_) (AllReadyH.cons rfl (fun K hK => ?_) (AllReadyH.nil)))
      ·go_simp
       refine (DB1.out u_1 PL_1.out).mono ?_; rintro e u_2 ⟨rfl, pl_, mp_⟩
       have PL_2 := hd pl_
       have PR_2 := hd (PL.othl PR_1.out mp_ DIS.out)
       have TW_2 := hd (TW_1.out.left mp_)
       clear pl_ mp_
       (try go_simp)
       refine hK.out _ _ TW_2.out (fun _ => ?_)
       clear hK K
       refine wpAnyH_ready (rs := [6, 7]) (by kernel_rfl) (by simp) ?_
       refine AllReadyH.cons rfl (fun K hK => ?_) (AllReadyH.cons rfl (fun K hK => ?_) (AllReadyH.nil))
       ·go_simp
        obtain ⟨u_3, hu_⟩ : ∃ x, x = u_2.alloc (.cells #[.int .i64 0, .string ⟨#[]⟩, .int .u64 0] 41) := ⟨_, rfl⟩
        obtain ⟨A_3, hA_⟩ : ∃ A, A = u_2.heap.size := ⟨_, rfl⟩
        have b_ := belA hu_
        have m_ := Mp.of_below (p := p) (b := b) b_
        have TW_3 := hd (TW_2.out.left m_)
        have PL_3 := hd (PL_2.out.below b_)
        have PR_3 := hd (PR_2.out.below b_)
        have R_A_3_3 : Hid (Row5 S5 u_3 A_3 ⟨0, ⟨#[]⟩, 0⟩) := hd (by rw [hu_, hA_]; exact Row5.new ⟨0, ⟨#[]⟩, 0⟩ (by have := TW_2.out.size; have := HS5.out; omega))
        rw [← hu_, ← hA_]
        refine hK.out _ _ TW_3.out (fun _ => ?_)
        clear hK K hu_ hA_ b_ m_
        refine wpAnyH_ready (rs := [7]) (by kernel_rfl) (by simp) ?_
        refine AllReadyH.cons rfl (fun K hK => ?_) (AllReadyH.nil)
        ·go_simp
         obtain ⟨u_4, hu_⟩ : ∃ x, x = u_3.alloc (.cells #[.int .i64 0, .string ⟨#[]⟩, .int .u64 0] 41) := ⟨_, rfl⟩
         obtain ⟨A_4, hA_⟩ : ∃ A, A = u_3.heap.size := ⟨_, rfl⟩
         have b_ := belA hu_
         have m_ := Mp.of_below (p := p) (b := b) b_
         have TW_4 := hd (TW_3.out.left m_)
         have PL_4 := hd (PL_3.out.below b_)
         have PR_4 := hd (PR_3.out.below b_)
         have R_A_4_4 : Hid (Row5 S5 u_4 A_4 ⟨0, ⟨#[]⟩, 0⟩) := hd (by rw [hu_, hA_]; exact Row5.new ⟨0, ⟨#[]⟩, 0⟩ (by have := TW_3.out.size; have := HS5.out; omega))
         have R_A_3_4 := hd (R_A_3_3.out.mp m_ LT5.out.1 LT5.out.2.1)
         have NE_A_3_A_4 : Hid (A_3 ≠ A_4) := hd (by have := lt_of_rowR R_A_3_3.out.1; omega)
         rw [← hu_, ← hA_]
         refine hK.out _ _ TW_4.out (fun _ => ?_)
         clear hK K hu_ hA_ b_ m_
         refine wpAnyH_ready (rs := [8]) (by kernel_rfl) (by simp) (AllReadyH.cons rfl (fun K hK => ?_) AllReadyH.nil)
         rw [if_pos (by rfl)]
         refine wp_store_row 41 _ _ rfl _ #[.int .i64 yae, .string yav, .int .u64 (yad : Int)] rfl rfl _ _ R_A_3_4.out.1 (by kernel_rfl) rfl ONEya.out ?_
         have TW_5 := hd (TW_4.out.sr HS5.out R_A_3_4.out.2 (rwp yae yav yad))
         have PL_5 := hd (PL.srl PL_4.out LT5.out R_A_3_4.out.2 (rwp yae yav yad))
         have PR_5 := hd (PL.srr PR_4.out LT5.out R_A_3_4.out.2 (rwp yae yav yad))
         have R_A_3_5 := hd (R_A_3_4.out.same ⟨yae, yav, yad⟩)
         have R_A_4_5 := hd (R_A_4_4.out.other (Ne.symm NE_A_3_A_4.out) (rwp yae yav yad))
         refine hK.out _ _ TW_5.out (fun _ => ?_)
         clear hK K
         refine wpAnyH_ready (rs := [9]) (by kernel_rfl) (by simp) (AllReadyH.cons rfl (fun K hK => ?_) AllReadyH.nil)
         rw [if_pos (by rfl)]
         refine wp_store_row 41 _ _ rfl _ #[.int .i64 ybe, .string ybv, .int .u64 (ybd : Int)] rfl rfl _ _ R_A_4_5.out.1 (by kernel_rfl) rfl ONEyb.out ?_
         have TW_6 := hd (TW_5.out.sr HS5.out R_A_4_5.out.2 (rwp ybe ybv ybd))
         have PL_6 := hd (PL.srl PL_5.out LT5.out R_A_4_5.out.2 (rwp ybe ybv ybd))
         have PR_6 := hd (PL.srr PR_5.out LT5.out R_A_4_5.out.2 (rwp ybe ybv ybd))
         have R_A_3_6 := hd (R_A_3_5.out.other NE_A_3_A_4.out (rwp ybe ybv ybd))
         have R_A_4_6 := hd (R_A_4_5.out.same ⟨ybe, ybv, ybd⟩)
         refine hK.out _ _ TW_6.out (fun _ => ?_)
         clear hK K
         refine wpAnyH_done (by kernel_rfl) ?_ _
         have fin_ : Fl ((u_4.setRow A_3 (rwp yae yav yad)).setRow A_4 (rwp ybe ybv ybd)) A_3 A_4 := HFl.out _ _ _ PL_6.out PR_6.out TW_6.out R_A_3_6.out R_A_4_6.out
         obtain ⟨Z, hZ⟩ : ∃ Z, Z = ((u_4.setRow A_3 #[.int .i64 yae, .string yav, .int .u64 (yad : Int)]).setRow A_4 #[.int .i64 ybe, .string ybv, .int .u64 (ybd : Int)]) := ⟨_, rfl⟩
         rw [← hZ] at ⊢
         change Fl _ _ _ at fin_
         rw [show ((u_4.setRow A_3 (rwp yae yav yad)).setRow A_4 (rwp ybe ybv ybd)) = Z from hZ.symm] at fin_
         clear hZ
         exact key Z A_3 A_4 fin_
       ·go_simp
        obtain ⟨u_7, hu_⟩ : ∃ x, x = u_2.alloc (.cells #[.int .i64 0, .string ⟨#[]⟩, .int .u64 0] 41) := ⟨_, rfl⟩
        obtain ⟨A_7, hA_⟩ : ∃ A, A = u_2.heap.size := ⟨_, rfl⟩
        have b_ := belA hu_
        have m_ := Mp.of_below (p := p) (b := b) b_
        have TW_7 := hd (TW_2.out.left m_)
        have PL_7 := hd (PL_2.out.below b_)
        have PR_7 := hd (PR_2.out.below b_)
        have R_A_7_7 : Hid (Row5 S5 u_7 A_7 ⟨0, ⟨#[]⟩, 0⟩) := hd (by rw [hu_, hA_]; exact Row5.new ⟨0, ⟨#[]⟩, 0⟩ (by have := TW_2.out.size; have := HS5.out; omega))
        rw [← hu_, ← hA_]
        refine hK.out _ _ TW_7.out (fun _ => ?_)
        clear hK K hu_ hA_ b_ m_
        refine wpAnyH_ready (rs := [6]) (by kernel_rfl) (by simp) ?_
        refine AllReadyH.cons rfl (fun K hK => ?_) (AllReadyH.nil)
        ·go_simp
         obtain ⟨u_8, hu_⟩ : ∃ x, x = u_7.alloc (.cells #[.int .i64 0, .string ⟨#[]⟩, .int .u64 0] 41) := ⟨_, rfl⟩
         obtain ⟨A_8, hA_⟩ : ∃ A, A = u_7.heap.size := ⟨_, rfl⟩
         have b_ := belA hu_
         have m_ := Mp.of_below (p := p) (b := b) b_
         have TW_8 := hd (TW_7.out.left m_)
         have PL_8 := hd (PL_7.out.below b_)
         have PR_8 := hd (PR_7.out.below b_)
         have R_A_8_8 : Hid (Row5 S5 u_8 A_8 ⟨0, ⟨#[]⟩, 0⟩) := hd (by rw [hu_, hA_]; exact Row5.new ⟨0, ⟨#[]⟩, 0⟩ (by have := TW_7.out.size; have := HS5.out; omega))
         have R_A_7_8 := hd (R_A_7_7.out.mp m_ LT5.out.1 LT5.out.2.1)
         have NE_A_7_A_8 : Hid (A_7 ≠ A_8) := hd (by have := lt_of_rowR R_A_7_7.out.1; omega)
         rw [← hu_, ← hA_]
         refine hK.out _ _ TW_8.out (fun _ => ?_)
         clear hK K hu_ hA_ b_ m_
         refine wpAnyH_ready (rs := [8]) (by kernel_rfl) (by simp) (AllReadyH.cons rfl (fun K hK => ?_) AllReadyH.nil)
         rw [if_pos (by rfl)]
         refine wp_store_row 41 _ _ rfl _ #[.int .i64 yae, .string yav, .int .u64 (yad : Int)] rfl rfl _ _ R_A_8_8.out.1 (by kernel_rfl) rfl ONEya.out ?_
         have TW_9 := hd (TW_8.out.sr HS5.out R_A_8_8.out.2 (rwp yae yav yad))
         have PL_9 := hd (PL.srl PL_8.out LT5.out R_A_8_8.out.2 (rwp yae yav yad))
         have PR_9 := hd (PL.srr PR_8.out LT5.out R_A_8_8.out.2 (rwp yae yav yad))
         have R_A_7_9 := hd (R_A_7_8.out.other NE_A_7_A_8.out (rwp yae yav yad))
         have R_A_8_9 := hd (R_A_8_8.out.same ⟨yae, yav, yad⟩)
         refine hK.out _ _ TW_9.out (fun _ => ?_)
         clear hK K
         refine wpAnyH_ready (rs := [9]) (by kernel_rfl) (by simp) (AllReadyH.cons rfl (fun K hK => ?_) AllReadyH.nil)
         rw [if_pos (by rfl)]
         refine wp_store_row 41 _ _ rfl _ #[.int .i64 ybe, .string ybv, .int .u64 (ybd : Int)] rfl rfl _ _ R_A_7_9.out.1 (by kernel_rfl) rfl ONEyb.out ?_
         have TW_10 := hd (TW_9.out.sr HS5.out R_A_7_9.out.2 (rwp ybe ybv ybd))
         have PL_10 := hd (PL.srl PL_9.out LT5.out R_A_7_9.out.2 (rwp ybe ybv ybd))
         have PR_10 := hd (PL.srr PR_9.out LT5.out R_A_7_9.out.2 (rwp ybe ybv ybd))
         have R_A_7_10 := hd (R_A_7_9.out.same ⟨ybe, ybv, ybd⟩)
         have R_A_8_10 := hd (R_A_8_9.out.other (Ne.symm NE_A_7_A_8.out) (rwp ybe ybv ybd))
         refine hK.out _ _ TW_10.out (fun _ => ?_)
         clear hK K
         refine wpAnyH_done (by kernel_rfl) ?_ _
         have fin_ : Fl ((u_8.setRow A_8 (rwp yae yav yad)).setRow A_7 (rwp ybe ybv ybd)) A_8 A_7 := HFl.out _ _ _ PL_10.out PR_10.out TW_10.out R_A_8_10.out R_A_7_10.out
         obtain ⟨Z, hZ⟩ : ∃ Z, Z = ((u_8.setRow A_8 #[.int .i64 yae, .string yav, .int .u64 (yad : Int)]).setRow A_7 #[.int .i64 ybe, .string ybv, .int .u64 (ybd : Int)]) := ⟨_, rfl⟩
         rw [← hZ] at ⊢
         change Fl _ _ _ at fin_
         rw [show ((u_8.setRow A_8 (rwp yae yav yad)).setRow A_7 (rwp ybe ybv ybd)) = Z from hZ.symm] at fin_
         clear hZ
         exact key Z A_8 A_7 fin_
      ·go_simp
       obtain ⟨u_11, hu_⟩ : ∃ x, x = u_1.alloc (.cells #[.int .i64 0, .string ⟨#[]⟩, .int .u64 0] 41) := ⟨_, rfl⟩
       obtain ⟨A_11, hA_⟩ : ∃ A, A = u_1.heap.size := ⟨_, rfl⟩
       have b_ := belA hu_
       have m_ := Mp.of_below (p := p) (b := b) b_
       have TW_11 := hd (TW_1.out.left m_)
       have PL_11 := hd (PL_1.out.below b_)
       have PR_11 := hd (PR_1.out.below b_)
       have R_A_11_11 : Hid (Row5 S5 u_11 A_11 ⟨0, ⟨#[]⟩, 0⟩) := hd (by rw [hu_, hA_]; exact Row5.new ⟨0, ⟨#[]⟩, 0⟩ (by have := TW_1.out.size; have := HS5.out; omega))
       rw [← hu_, ← hA_]
       refine hK.out _ _ TW_11.out (fun _ => ?_)
       clear hK K hu_ hA_ b_ m_
       refine wpAnyH_ready (rs := [5, 7]) (by kernel_rfl) (by simp) ?_
       refine AllReadyH.cons rfl (fun K hK => ?_) (AllReadyH.cons rfl (fun K hK => ?_) (AllReadyH.nil))
       ·go_simp
        refine (DB1.out u_11 PL_11.out).mono ?_; rintro e u_12 ⟨rfl, pl_, mp_⟩
        have PL_12 := hd pl_
        have PR_12 := hd (PL.othl PR_11.out mp_ DIS.out)
        have TW_12 := hd (TW_11.out.left mp_)
        have R_A_11_12 := hd (R_A_11_11.out.mp mp_ LT5.out.1 LT5.out.2.1)
        clear pl_ mp_
        (try go_simp)
        refine hK.out _ _ TW_12.out (fun _ => ?_)
        clear hK K
        refine wpAnyH_ready (rs := [7]) (by kernel_rfl) (by simp) ?_
        refine AllReadyH.cons rfl (fun K hK => ?_) (AllReadyH.nil)
        ·go_simp
         obtain ⟨u_13, hu_⟩ : ∃ x, x = u_12.alloc (.cells #[.int .i64 0, .string ⟨#[]⟩, .int .u64 0] 41) := ⟨_, rfl⟩
         obtain ⟨A_13, hA_⟩ : ∃ A, A = u_12.heap.size := ⟨_, rfl⟩
         have b_ := belA hu_
         have m_ := Mp.of_below (p := p) (b := b) b_
         have TW_13 := hd (TW_12.out.left m_)
         have PL_13 := hd (PL_12.out.below b_)
         have PR_13 := hd (PR_12.out.below b_)
         have R_A_13_13 : Hid (Row5 S5 u_13 A_13 ⟨0, ⟨#[]⟩, 0⟩) := hd (by rw [hu_, hA_]; exact Row5.new ⟨0, ⟨#[]⟩, 0⟩ (by have := TW_12.out.size; have := HS5.out; omega))
         have R_A_11_13 := hd (R_A_11_12.out.mp m_ LT5.out.1 LT5.out.2.1)
         have NE_A_11_A_13 : Hid (A_11 ≠ A_13) := hd (by have := lt_of_rowR R_A_11_12.out.1; omega)
         rw [← hu_, ← hA_]
         refine hK.out _ _ TW_13.out (fun _ => ?_)
         clear hK K hu_ hA_ b_ m_
         refine wpAnyH_ready (rs := [8]) (by kernel_rfl) (by simp) (AllReadyH.cons rfl (fun K hK => ?_) AllReadyH.nil)
         rw [if_pos (by rfl)]
         refine wp_store_row 41 _ _ rfl _ #[.int .i64 yae, .string yav, .int .u64 (yad : Int)] rfl rfl _ _ R_A_11_13.out.1 (by kernel_rfl) rfl ONEya.out ?_
         have TW_14 := hd (TW_13.out.sr HS5.out R_A_11_13.out.2 (rwp yae yav yad))
         have PL_14 := hd (PL.srl PL_13.out LT5.out R_A_11_13.out.2 (rwp yae yav yad))
         have PR_14 := hd (PL.srr PR_13.out LT5.out R_A_11_13.out.2 (rwp yae yav yad))
         have R_A_11_14 := hd (R_A_11_13.out.same ⟨yae, yav, yad⟩)
         have R_A_13_14 := hd (R_A_13_13.out.other (Ne.symm NE_A_11_A_13.out) (rwp yae yav yad))
         refine hK.out _ _ TW_14.out (fun _ => ?_)
         clear hK K
         refine wpAnyH_ready (rs := [9]) (by kernel_rfl) (by simp) (AllReadyH.cons rfl (fun K hK => ?_) AllReadyH.nil)
         rw [if_pos (by rfl)]
         refine wp_store_row 41 _ _ rfl _ #[.int .i64 ybe, .string ybv, .int .u64 (ybd : Int)] rfl rfl _ _ R_A_13_14.out.1 (by kernel_rfl) rfl ONEyb.out ?_
         have TW_15 := hd (TW_14.out.sr HS5.out R_A_13_14.out.2 (rwp ybe ybv ybd))
         have PL_15 := hd (PL.srl PL_14.out LT5.out R_A_13_14.out.2 (rwp ybe ybv ybd))
         have PR_15 := hd (PL.srr PR_14.out LT5.out R_A_13_14.out.2 (rwp ybe ybv ybd))
         have R_A_11_15 := hd (R_A_11_14.out.other NE_A_11_A_13.out (rwp ybe ybv ybd))
         have R_A_13_15 := hd (R_A_13_14.out.same ⟨ybe, ybv, ybd⟩)
         refine hK.out _ _ TW_15.out (fun _ => ?_)
         clear hK K
         refine wpAnyH_done (by kernel_rfl) ?_ _
         have fin_ : Fl ((u_13.setRow A_11 (rwp yae yav yad)).setRow A_13 (rwp ybe ybv ybd)) A_11 A_13 := HFl.out _ _ _ PL_15.out PR_15.out TW_15.out R_A_11_15.out R_A_13_15.out
         obtain ⟨Z, hZ⟩ : ∃ Z, Z = ((u_13.setRow A_11 #[.int .i64 yae, .string yav, .int .u64 (yad : Int)]).setRow A_13 #[.int .i64 ybe, .string ybv, .int .u64 (ybd : Int)]) := ⟨_, rfl⟩
         rw [← hZ] at ⊢
         change Fl _ _ _ at fin_
         rw [show ((u_13.setRow A_11 (rwp yae yav yad)).setRow A_13 (rwp ybe ybv ybd)) = Z from hZ.symm] at fin_
         clear hZ
         exact key Z A_11 A_13 fin_
       ·go_simp
        obtain ⟨u_16, hu_⟩ : ∃ x, x = u_11.alloc (.cells #[.int .i64 0, .string ⟨#[]⟩, .int .u64 0] 41) := ⟨_, rfl⟩
        obtain ⟨A_16, hA_⟩ : ∃ A, A = u_11.heap.size := ⟨_, rfl⟩
        have b_ := belA hu_
        have m_ := Mp.of_below (p := p) (b := b) b_
        have TW_16 := hd (TW_11.out.left m_)
        have PL_16 := hd (PL_11.out.below b_)
        have PR_16 := hd (PR_11.out.below b_)
        have R_A_16_16 : Hid (Row5 S5 u_16 A_16 ⟨0, ⟨#[]⟩, 0⟩) := hd (by rw [hu_, hA_]; exact Row5.new ⟨0, ⟨#[]⟩, 0⟩ (by have := TW_11.out.size; have := HS5.out; omega))
        have R_A_11_16 := hd (R_A_11_11.out.mp m_ LT5.out.1 LT5.out.2.1)
        have NE_A_11_A_16 : Hid (A_11 ≠ A_16) := hd (by have := lt_of_rowR R_A_11_11.out.1; omega)
        rw [← hu_, ← hA_]
        refine hK.out _ _ TW_16.out (fun _ => ?_)
        clear hK K hu_ hA_ b_ m_
        refine wpAnyH_ready (rs := [5]) (by kernel_rfl) (by simp) ?_
        refine AllReadyH.cons rfl (fun K hK => ?_) (AllReadyH.nil)
        ·go_simp
         refine (DB1.out u_16 PL_16.out).mono ?_; rintro e u_17 ⟨rfl, pl_, mp_⟩
         have PL_17 := hd pl_
         have PR_17 := hd (PL.othl PR_16.out mp_ DIS.out)
         have TW_17 := hd (TW_16.out.left mp_)
         have R_A_11_17 := hd (R_A_11_16.out.mp mp_ LT5.out.1 LT5.out.2.1)
         have R_A_16_17 := hd (R_A_16_16.out.mp mp_ LT5.out.1 LT5.out.2.1)
         clear pl_ mp_
         (try go_simp)
         refine hK.out _ _ TW_17.out (fun _ => ?_)
         clear hK K
         refine wpAnyH_ready (rs := [8]) (by kernel_rfl) (by simp) (AllReadyH.cons rfl (fun K hK => ?_) AllReadyH.nil)
         rw [if_pos (by rfl)]
         refine wp_store_row 41 _ _ rfl _ #[.int .i64 yae, .string yav, .int .u64 (yad : Int)] rfl rfl _ _ R_A_11_17.out.1 (by kernel_rfl) rfl ONEya.out ?_
         have TW_18 := hd (TW_17.out.sr HS5.out R_A_11_17.out.2 (rwp yae yav yad))
         have PL_18 := hd (PL.srl PL_17.out LT5.out R_A_11_17.out.2 (rwp yae yav yad))
         have PR_18 := hd (PL.srr PR_17.out LT5.out R_A_11_17.out.2 (rwp yae yav yad))
         have R_A_11_18 := hd (R_A_11_17.out.same ⟨yae, yav, yad⟩)
         have R_A_16_18 := hd (R_A_16_17.out.other (Ne.symm NE_A_11_A_16.out) (rwp yae yav yad))
         refine hK.out _ _ TW_18.out (fun _ => ?_)
         clear hK K
         refine wpAnyH_ready (rs := [9]) (by kernel_rfl) (by simp) (AllReadyH.cons rfl (fun K hK => ?_) AllReadyH.nil)
         rw [if_pos (by rfl)]
         refine wp_store_row 41 _ _ rfl _ #[.int .i64 ybe, .string ybv, .int .u64 (ybd : Int)] rfl rfl _ _ R_A_16_18.out.1 (by kernel_rfl) rfl ONEyb.out ?_
         have TW_19 := hd (TW_18.out.sr HS5.out R_A_16_18.out.2 (rwp ybe ybv ybd))
         have PL_19 := hd (PL.srl PL_18.out LT5.out R_A_16_18.out.2 (rwp ybe ybv ybd))
         have PR_19 := hd (PL.srr PR_18.out LT5.out R_A_16_18.out.2 (rwp ybe ybv ybd))
         have R_A_11_19 := hd (R_A_11_18.out.other NE_A_11_A_16.out (rwp ybe ybv ybd))
         have R_A_16_19 := hd (R_A_16_18.out.same ⟨ybe, ybv, ybd⟩)
         refine hK.out _ _ TW_19.out (fun _ => ?_)
         clear hK K
         refine wpAnyH_done (by kernel_rfl) ?_ _
         have fin_ : Fl ((u_17.setRow A_11 (rwp yae yav yad)).setRow A_16 (rwp ybe ybv ybd)) A_11 A_16 := HFl.out _ _ _ PL_19.out PR_19.out TW_19.out R_A_11_19.out R_A_16_19.out
         obtain ⟨Z, hZ⟩ : ∃ Z, Z = ((u_17.setRow A_11 #[.int .i64 yae, .string yav, .int .u64 (yad : Int)]).setRow A_16 #[.int .i64 ybe, .string ybv, .int .u64 (ybd : Int)]) := ⟨_, rfl⟩
         rw [← hZ] at ⊢
         change Fl _ _ _ at fin_
         rw [show ((u_17.setRow A_11 (rwp yae yav yad)).setRow A_16 (rwp ybe ybv ybd)) = Z from hZ.symm] at fin_
         clear hZ
         exact key Z A_11 A_16 fin_
      ·go_simp
       obtain ⟨u_20, hu_⟩ : ∃ x, x = u_1.alloc (.cells #[.int .i64 0, .string ⟨#[]⟩, .int .u64 0] 41) := ⟨_, rfl⟩
       obtain ⟨A_20, hA_⟩ : ∃ A, A = u_1.heap.size := ⟨_, rfl⟩
       have b_ := belA hu_
       have m_ := Mp.of_below (p := p) (b := b) b_
       have TW_20 := hd (TW_1.out.left m_)
       have PL_20 := hd (PL_1.out.below b_)
       have PR_20 := hd (PR_1.out.below b_)
       have R_A_20_20 : Hid (Row5 S5 u_20 A_20 ⟨0, ⟨#[]⟩, 0⟩) := hd (by rw [hu_, hA_]; exact Row5.new ⟨0, ⟨#[]⟩, 0⟩ (by have := TW_1.out.size; have := HS5.out; omega))
       rw [← hu_, ← hA_]
       refine hK.out _ _ TW_20.out (fun _ => ?_)
       clear hK K hu_ hA_ b_ m_
       refine wpAnyH_ready (rs := [5, 6]) (by kernel_rfl) (by simp) ?_
       refine AllReadyH.cons rfl (fun K hK => ?_) (AllReadyH.cons rfl (fun K hK => ?_) (AllReadyH.nil))
       ·go_simp
        refine (DB1.out u_20 PL_20.out).mono ?_; rintro e u_21 ⟨rfl, pl_, mp_⟩
        have PL_21 := hd pl_
        have PR_21 := hd (PL.othl PR_20.out mp_ DIS.out)
        have TW_21 := hd (TW_20.out.left mp_)
        have R_A_20_21 := hd (R_A_20_20.out.mp mp_ LT5.out.1 LT5.out.2.1)
        clear pl_ mp_
        (try go_simp)
        refine hK.out _ _ TW_21.out (fun _ => ?_)
        clear hK K
        refine wpAnyH_ready (rs := [6]) (by kernel_rfl) (by simp) ?_
        refine AllReadyH.cons rfl (fun K hK => ?_) (AllReadyH.nil)
        ·go_simp
         obtain ⟨u_22, hu_⟩ : ∃ x, x = u_21.alloc (.cells #[.int .i64 0, .string ⟨#[]⟩, .int .u64 0] 41) := ⟨_, rfl⟩
         obtain ⟨A_22, hA_⟩ : ∃ A, A = u_21.heap.size := ⟨_, rfl⟩
         have b_ := belA hu_
         have m_ := Mp.of_below (p := p) (b := b) b_
         have TW_22 := hd (TW_21.out.left m_)
         have PL_22 := hd (PL_21.out.below b_)
         have PR_22 := hd (PR_21.out.below b_)
         have R_A_22_22 : Hid (Row5 S5 u_22 A_22 ⟨0, ⟨#[]⟩, 0⟩) := hd (by rw [hu_, hA_]; exact Row5.new ⟨0, ⟨#[]⟩, 0⟩ (by have := TW_21.out.size; have := HS5.out; omega))
         have R_A_20_22 := hd (R_A_20_21.out.mp m_ LT5.out.1 LT5.out.2.1)
         have NE_A_20_A_22 : Hid (A_20 ≠ A_22) := hd (by have := lt_of_rowR R_A_20_21.out.1; omega)
         rw [← hu_, ← hA_]
         refine hK.out _ _ TW_22.out (fun _ => ?_)
         clear hK K hu_ hA_ b_ m_
         refine wpAnyH_ready (rs := [8]) (by kernel_rfl) (by simp) (AllReadyH.cons rfl (fun K hK => ?_) AllReadyH.nil)
         rw [if_pos (by rfl)]
         refine wp_store_row 41 _ _ rfl _ #[.int .i64 yae, .string yav, .int .u64 (yad : Int)] rfl rfl _ _ R_A_22_22.out.1 (by kernel_rfl) rfl ONEya.out ?_
         have TW_23 := hd (TW_22.out.sr HS5.out R_A_22_22.out.2 (rwp yae yav yad))
         have PL_23 := hd (PL.srl PL_22.out LT5.out R_A_22_22.out.2 (rwp yae yav yad))
         have PR_23 := hd (PL.srr PR_22.out LT5.out R_A_22_22.out.2 (rwp yae yav yad))
         have R_A_20_23 := hd (R_A_20_22.out.other NE_A_20_A_22.out (rwp yae yav yad))
         have R_A_22_23 := hd (R_A_22_22.out.same ⟨yae, yav, yad⟩)
         refine hK.out _ _ TW_23.out (fun _ => ?_)
         clear hK K
         refine wpAnyH_ready (rs := [9]) (by kernel_rfl) (by simp) (AllReadyH.cons rfl (fun K hK => ?_) AllReadyH.nil)
         rw [if_pos (by rfl)]
         refine wp_store_row 41 _ _ rfl _ #[.int .i64 ybe, .string ybv, .int .u64 (ybd : Int)] rfl rfl _ _ R_A_20_23.out.1 (by kernel_rfl) rfl ONEyb.out ?_
         have TW_24 := hd (TW_23.out.sr HS5.out R_A_20_23.out.2 (rwp ybe ybv ybd))
         have PL_24 := hd (PL.srl PL_23.out LT5.out R_A_20_23.out.2 (rwp ybe ybv ybd))
         have PR_24 := hd (PL.srr PR_23.out LT5.out R_A_20_23.out.2 (rwp ybe ybv ybd))
         have R_A_20_24 := hd (R_A_20_23.out.same ⟨ybe, ybv, ybd⟩)
         have R_A_22_24 := hd (R_A_22_23.out.other (Ne.symm NE_A_20_A_22.out) (rwp ybe ybv ybd))
         refine hK.out _ _ TW_24.out (fun _ => ?_)
         clear hK K
         refine wpAnyH_done (by kernel_rfl) ?_ _
         have fin_ : Fl ((u_22.setRow A_22 (rwp yae yav yad)).setRow A_20 (rwp ybe ybv ybd)) A_22 A_20 := HFl.out _ _ _ PL_24.out PR_24.out TW_24.out R_A_22_24.out R_A_20_24.out
         obtain ⟨Z, hZ⟩ : ∃ Z, Z = ((u_22.setRow A_22 #[.int .i64 yae, .string yav, .int .u64 (yad : Int)]).setRow A_20 #[.int .i64 ybe, .string ybv, .int .u64 (ybd : Int)]) := ⟨_, rfl⟩
         rw [← hZ] at ⊢
         change Fl _ _ _ at fin_
         rw [show ((u_22.setRow A_22 (rwp yae yav yad)).setRow A_20 (rwp ybe ybv ybd)) = Z from hZ.symm] at fin_
         clear hZ
         exact key Z A_22 A_20 fin_
       ·go_simp
        obtain ⟨u_25, hu_⟩ : ∃ x, x = u_20.alloc (.cells #[.int .i64 0, .string ⟨#[]⟩, .int .u64 0] 41) := ⟨_, rfl⟩
        obtain ⟨A_25, hA_⟩ : ∃ A, A = u_20.heap.size := ⟨_, rfl⟩
        have b_ := belA hu_
        have m_ := Mp.of_below (p := p) (b := b) b_
        have TW_25 := hd (TW_20.out.left m_)
        have PL_25 := hd (PL_20.out.below b_)
        have PR_25 := hd (PR_20.out.below b_)
        have R_A_25_25 : Hid (Row5 S5 u_25 A_25 ⟨0, ⟨#[]⟩, 0⟩) := hd (by rw [hu_, hA_]; exact Row5.new ⟨0, ⟨#[]⟩, 0⟩ (by have := TW_20.out.size; have := HS5.out; omega))
        have R_A_20_25 := hd (R_A_20_20.out.mp m_ LT5.out.1 LT5.out.2.1)
        have NE_A_20_A_25 : Hid (A_20 ≠ A_25) := hd (by have := lt_of_rowR R_A_20_20.out.1; omega)
        rw [← hu_, ← hA_]
        refine hK.out _ _ TW_25.out (fun _ => ?_)
        clear hK K hu_ hA_ b_ m_
        refine wpAnyH_ready (rs := [5]) (by kernel_rfl) (by simp) ?_
        refine AllReadyH.cons rfl (fun K hK => ?_) (AllReadyH.nil)
        ·go_simp
         refine (DB1.out u_25 PL_25.out).mono ?_; rintro e u_26 ⟨rfl, pl_, mp_⟩
         have PL_26 := hd pl_
         have PR_26 := hd (PL.othl PR_25.out mp_ DIS.out)
         have TW_26 := hd (TW_25.out.left mp_)
         have R_A_20_26 := hd (R_A_20_25.out.mp mp_ LT5.out.1 LT5.out.2.1)
         have R_A_25_26 := hd (R_A_25_25.out.mp mp_ LT5.out.1 LT5.out.2.1)
         clear pl_ mp_
         (try go_simp)
         refine hK.out _ _ TW_26.out (fun _ => ?_)
         clear hK K
         refine wpAnyH_ready (rs := [8]) (by kernel_rfl) (by simp) (AllReadyH.cons rfl (fun K hK => ?_) AllReadyH.nil)
         rw [if_pos (by rfl)]
         refine wp_store_row 41 _ _ rfl _ #[.int .i64 yae, .string yav, .int .u64 (yad : Int)] rfl rfl _ _ R_A_25_26.out.1 (by kernel_rfl) rfl ONEya.out ?_
         have TW_27 := hd (TW_26.out.sr HS5.out R_A_25_26.out.2 (rwp yae yav yad))
         have PL_27 := hd (PL.srl PL_26.out LT5.out R_A_25_26.out.2 (rwp yae yav yad))
         have PR_27 := hd (PL.srr PR_26.out LT5.out R_A_25_26.out.2 (rwp yae yav yad))
         have R_A_20_27 := hd (R_A_20_26.out.other NE_A_20_A_25.out (rwp yae yav yad))
         have R_A_25_27 := hd (R_A_25_26.out.same ⟨yae, yav, yad⟩)
         refine hK.out _ _ TW_27.out (fun _ => ?_)
         clear hK K
         refine wpAnyH_ready (rs := [9]) (by kernel_rfl) (by simp) (AllReadyH.cons rfl (fun K hK => ?_) AllReadyH.nil)
         rw [if_pos (by rfl)]
         refine wp_store_row 41 _ _ rfl _ #[.int .i64 ybe, .string ybv, .int .u64 (ybd : Int)] rfl rfl _ _ R_A_20_27.out.1 (by kernel_rfl) rfl ONEyb.out ?_
         have TW_28 := hd (TW_27.out.sr HS5.out R_A_20_27.out.2 (rwp ybe ybv ybd))
         have PL_28 := hd (PL.srl PL_27.out LT5.out R_A_20_27.out.2 (rwp ybe ybv ybd))
         have PR_28 := hd (PL.srr PR_27.out LT5.out R_A_20_27.out.2 (rwp ybe ybv ybd))
         have R_A_20_28 := hd (R_A_20_27.out.same ⟨ybe, ybv, ybd⟩)
         have R_A_25_28 := hd (R_A_25_27.out.other (Ne.symm NE_A_20_A_25.out) (rwp ybe ybv ybd))
         refine hK.out _ _ TW_28.out (fun _ => ?_)
         clear hK K
         refine wpAnyH_done (by kernel_rfl) ?_ _
         have fin_ : Fl ((u_26.setRow A_25 (rwp yae yav yad)).setRow A_20 (rwp ybe ybv ybd)) A_25 A_20 := HFl.out _ _ _ PL_28.out PR_28.out TW_28.out R_A_25_28.out R_A_20_28.out
         obtain ⟨Z, hZ⟩ : ∃ Z, Z = ((u_26.setRow A_25 #[.int .i64 yae, .string yav, .int .u64 (yad : Int)]).setRow A_20 #[.int .i64 ybe, .string ybv, .int .u64 (ybd : Int)]) := ⟨_, rfl⟩
         rw [← hZ] at ⊢
         change Fl _ _ _ at fin_
         rw [show ((u_26.setRow A_25 (rwp yae yav yad)).setRow A_20 (rwp ybe ybv ybd)) = Z from hZ.symm] at fin_
         clear hZ
         exact key Z A_25 A_20 fin_
     ·go_simp
      obtain ⟨u_29, hu_⟩ : ∃ x, x = Wd.alloc (.cells #[.int .i64 0, .string ⟨#[]⟩, .int .u64 0] 41) := ⟨_, rfl⟩
      obtain ⟨A_29, hA_⟩ : ∃ A, A = Wd.heap.size := ⟨_, rfl⟩
      have b_ := belA hu_
      have m_ := Mp.of_below (p := p) (b := b) b_
      have TW_29 := hd (TWd.out.left m_)
      have PL_29 := hd (PLd.out.below b_)
      have PR_29 := hd (PRd.out.below b_)
      have R_A_29_29 : Hid (Row5 S5 u_29 A_29 ⟨0, ⟨#[]⟩, 0⟩) := hd (by rw [hu_, hA_]; exact Row5.new ⟨0, ⟨#[]⟩, 0⟩ (by have := TWd.out.size; have := HS5.out; omega))
      rw [← hu_, ← hA_]
      refine hK.out _ _ TW_29.out (fun _ => ?_)
      clear hK K hu_ hA_ b_ m_
      refine wpAnyH_ready (rs := [2, 7]) (by kernel_rfl) (by simp) ?_
      refine AllReadyH.cons rfl (fun K hK => ?_) (AllReadyH.cons rfl (fun K hK => ?_) (AllReadyH.nil))
      ·go_simp
       refine (DA1.out u_29 PL_29.out).mono ?_; rintro e u_30 ⟨rfl, pl_, mp_⟩
       have PL_30 := hd pl_
       have PR_30 := hd (PL.othl PR_29.out mp_ DIS.out)
       have TW_30 := hd (TW_29.out.left mp_)
       have R_A_29_30 := hd (R_A_29_29.out.mp mp_ LT5.out.1 LT5.out.2.1)
       clear pl_ mp_
       (try go_simp)
       refine hK.out _ _ TW_30.out (fun _ => ?_)
       clear hK K
       refine wpAnyH_ready (rs := [5, 7]) (by kernel_rfl) (by simp) ?_
       refine AllReadyH.cons rfl (fun K hK => ?_) (AllReadyH.cons rfl (fun K hK => ?_) (AllReadyH.nil))
       ·go_simp
        refine (DB1.out u_30 PL_30.out).mono ?_; rintro e u_31 ⟨rfl, pl_, mp_⟩
        have PL_31 := hd pl_
        have PR_31 := hd (PL.othl PR_30.out mp_ DIS.out)
        have TW_31 := hd (TW_30.out.left mp_)
        have R_A_29_31 := hd (R_A_29_30.out.mp mp_ LT5.out.1 LT5.out.2.1)
        clear pl_ mp_
        (try go_simp)
        refine hK.out _ _ TW_31.out (fun _ => ?_)
        clear hK K
        refine wpAnyH_ready (rs := [7]) (by kernel_rfl) (by simp) ?_
        refine AllReadyH.cons rfl (fun K hK => ?_) (AllReadyH.nil)
        ·go_simp
         obtain ⟨u_32, hu_⟩ : ∃ x, x = u_31.alloc (.cells #[.int .i64 0, .string ⟨#[]⟩, .int .u64 0] 41) := ⟨_, rfl⟩
         obtain ⟨A_32, hA_⟩ : ∃ A, A = u_31.heap.size := ⟨_, rfl⟩
         have b_ := belA hu_
         have m_ := Mp.of_below (p := p) (b := b) b_
         have TW_32 := hd (TW_31.out.left m_)
         have PL_32 := hd (PL_31.out.below b_)
         have PR_32 := hd (PR_31.out.below b_)
         have R_A_32_32 : Hid (Row5 S5 u_32 A_32 ⟨0, ⟨#[]⟩, 0⟩) := hd (by rw [hu_, hA_]; exact Row5.new ⟨0, ⟨#[]⟩, 0⟩ (by have := TW_31.out.size; have := HS5.out; omega))
         have R_A_29_32 := hd (R_A_29_31.out.mp m_ LT5.out.1 LT5.out.2.1)
         have NE_A_29_A_32 : Hid (A_29 ≠ A_32) := hd (by have := lt_of_rowR R_A_29_31.out.1; omega)
         rw [← hu_, ← hA_]
         refine hK.out _ _ TW_32.out (fun _ => ?_)
         clear hK K hu_ hA_ b_ m_
         refine wpAnyH_ready (rs := [8]) (by kernel_rfl) (by simp) (AllReadyH.cons rfl (fun K hK => ?_) AllReadyH.nil)
         rw [if_pos (by rfl)]
         refine wp_store_row 41 _ _ rfl _ #[.int .i64 yae, .string yav, .int .u64 (yad : Int)] rfl rfl _ _ R_A_29_32.out.1 (by kernel_rfl) rfl ONEya.out ?_
         have TW_33 := hd (TW_32.out.sr HS5.out R_A_29_32.out.2 (rwp yae yav yad))
         have PL_33 := hd (PL.srl PL_32.out LT5.out R_A_29_32.out.2 (rwp yae yav yad))
         have PR_33 := hd (PL.srr PR_32.out LT5.out R_A_29_32.out.2 (rwp yae yav yad))
         have R_A_29_33 := hd (R_A_29_32.out.same ⟨yae, yav, yad⟩)
         have R_A_32_33 := hd (R_A_32_32.out.other (Ne.symm NE_A_29_A_32.out) (rwp yae yav yad))
         refine hK.out _ _ TW_33.out (fun _ => ?_)
         clear hK K
         refine wpAnyH_ready (rs := [9]) (by kernel_rfl) (by simp) (AllReadyH.cons rfl (fun K hK => ?_) AllReadyH.nil)
         rw [if_pos (by rfl)]
         refine wp_store_row 41 _ _ rfl _ #[.int .i64 ybe, .string ybv, .int .u64 (ybd : Int)] rfl rfl _ _ R_A_32_33.out.1 (by kernel_rfl) rfl ONEyb.out ?_
         have TW_34 := hd (TW_33.out.sr HS5.out R_A_32_33.out.2 (rwp ybe ybv ybd))
         have PL_34 := hd (PL.srl PL_33.out LT5.out R_A_32_33.out.2 (rwp ybe ybv ybd))
         have PR_34 := hd (PL.srr PR_33.out LT5.out R_A_32_33.out.2 (rwp ybe ybv ybd))
         have R_A_29_34 := hd (R_A_29_33.out.other NE_A_29_A_32.out (rwp ybe ybv ybd))
         have R_A_32_34 := hd (R_A_32_33.out.same ⟨ybe, ybv, ybd⟩)
         refine hK.out _ _ TW_34.out (fun _ => ?_)
         clear hK K
         refine wpAnyH_done (by kernel_rfl) ?_ _
         have fin_ : Fl ((u_32.setRow A_29 (rwp yae yav yad)).setRow A_32 (rwp ybe ybv ybd)) A_29 A_32 := HFl.out _ _ _ PL_34.out PR_34.out TW_34.out R_A_29_34.out R_A_32_34.out
         obtain ⟨Z, hZ⟩ : ∃ Z, Z = ((u_32.setRow A_29 #[.int .i64 yae, .string yav, .int .u64 (yad : Int)]).setRow A_32 #[.int .i64 ybe, .string ybv, .int .u64 (ybd : Int)]) := ⟨_, rfl⟩
         rw [← hZ] at ⊢
         change Fl _ _ _ at fin_
         rw [show ((u_32.setRow A_29 (rwp yae yav yad)).setRow A_32 (rwp ybe ybv ybd)) = Z from hZ.symm] at fin_
         clear hZ
         exact key Z A_29 A_32 fin_
       ·go_simp
        obtain ⟨u_35, hu_⟩ : ∃ x, x = u_30.alloc (.cells #[.int .i64 0, .string ⟨#[]⟩, .int .u64 0] 41) := ⟨_, rfl⟩
        obtain ⟨A_35, hA_⟩ : ∃ A, A = u_30.heap.size := ⟨_, rfl⟩
        have b_ := belA hu_
        have m_ := Mp.of_below (p := p) (b := b) b_
        have TW_35 := hd (TW_30.out.left m_)
        have PL_35 := hd (PL_30.out.below b_)
        have PR_35 := hd (PR_30.out.below b_)
        have R_A_35_35 : Hid (Row5 S5 u_35 A_35 ⟨0, ⟨#[]⟩, 0⟩) := hd (by rw [hu_, hA_]; exact Row5.new ⟨0, ⟨#[]⟩, 0⟩ (by have := TW_30.out.size; have := HS5.out; omega))
        have R_A_29_35 := hd (R_A_29_30.out.mp m_ LT5.out.1 LT5.out.2.1)
        have NE_A_29_A_35 : Hid (A_29 ≠ A_35) := hd (by have := lt_of_rowR R_A_29_30.out.1; omega)
        rw [← hu_, ← hA_]
        refine hK.out _ _ TW_35.out (fun _ => ?_)
        clear hK K hu_ hA_ b_ m_
        refine wpAnyH_ready (rs := [5]) (by kernel_rfl) (by simp) ?_
        refine AllReadyH.cons rfl (fun K hK => ?_) (AllReadyH.nil)
        ·go_simp
         refine (DB1.out u_35 PL_35.out).mono ?_; rintro e u_36 ⟨rfl, pl_, mp_⟩
         have PL_36 := hd pl_
         have PR_36 := hd (PL.othl PR_35.out mp_ DIS.out)
         have TW_36 := hd (TW_35.out.left mp_)
         have R_A_29_36 := hd (R_A_29_35.out.mp mp_ LT5.out.1 LT5.out.2.1)
         have R_A_35_36 := hd (R_A_35_35.out.mp mp_ LT5.out.1 LT5.out.2.1)
         clear pl_ mp_
         (try go_simp)
         refine hK.out _ _ TW_36.out (fun _ => ?_)
         clear hK K
         refine wpAnyH_ready (rs := [8]) (by kernel_rfl) (by simp) (AllReadyH.cons rfl (fun K hK => ?_) AllReadyH.nil)
         rw [if_pos (by rfl)]
         refine wp_store_row 41 _ _ rfl _ #[.int .i64 yae, .string yav, .int .u64 (yad : Int)] rfl rfl _ _ R_A_29_36.out.1 (by kernel_rfl) rfl ONEya.out ?_
         have TW_37 := hd (TW_36.out.sr HS5.out R_A_29_36.out.2 (rwp yae yav yad))
         have PL_37 := hd (PL.srl PL_36.out LT5.out R_A_29_36.out.2 (rwp yae yav yad))
         have PR_37 := hd (PL.srr PR_36.out LT5.out R_A_29_36.out.2 (rwp yae yav yad))
         have R_A_29_37 := hd (R_A_29_36.out.same ⟨yae, yav, yad⟩)
         have R_A_35_37 := hd (R_A_35_36.out.other (Ne.symm NE_A_29_A_35.out) (rwp yae yav yad))
         refine hK.out _ _ TW_37.out (fun _ => ?_)
         clear hK K
         refine wpAnyH_ready (rs := [9]) (by kernel_rfl) (by simp) (AllReadyH.cons rfl (fun K hK => ?_) AllReadyH.nil)
         rw [if_pos (by rfl)]
         refine wp_store_row 41 _ _ rfl _ #[.int .i64 ybe, .string ybv, .int .u64 (ybd : Int)] rfl rfl _ _ R_A_35_37.out.1 (by kernel_rfl) rfl ONEyb.out ?_
         have TW_38 := hd (TW_37.out.sr HS5.out R_A_35_37.out.2 (rwp ybe ybv ybd))
         have PL_38 := hd (PL.srl PL_37.out LT5.out R_A_35_37.out.2 (rwp ybe ybv ybd))
         have PR_38 := hd (PL.srr PR_37.out LT5.out R_A_35_37.out.2 (rwp ybe ybv ybd))
         have R_A_29_38 := hd (R_A_29_37.out.other NE_A_29_A_35.out (rwp ybe ybv ybd))
         have R_A_35_38 := hd (R_A_35_37.out.same ⟨ybe, ybv, ybd⟩)
         refine hK.out _ _ TW_38.out (fun _ => ?_)
         clear hK K
         refine wpAnyH_done (by kernel_rfl) ?_ _
         have fin_ : Fl ((u_36.setRow A_29 (rwp yae yav yad)).setRow A_35 (rwp ybe ybv ybd)) A_29 A_35 := HFl.out _ _ _ PL_38.out PR_38.out TW_38.out R_A_29_38.out R_A_35_38.out
         obtain ⟨Z, hZ⟩ : ∃ Z, Z = ((u_36.setRow A_29 #[.int .i64 yae, .string yav, .int .u64 (yad : Int)]).setRow A_35 #[.int .i64 ybe, .string ybv, .int .u64 (ybd : Int)]) := ⟨_, rfl⟩
         rw [← hZ] at ⊢
         change Fl _ _ _ at fin_
         rw [show ((u_36.setRow A_29 (rwp yae yav yad)).setRow A_35 (rwp ybe ybv ybd)) = Z from hZ.symm] at fin_
         clear hZ
         exact key Z A_29 A_35 fin_
      ·go_simp
       obtain ⟨u_39, hu_⟩ : ∃ x, x = u_29.alloc (.cells #[.int .i64 0, .string ⟨#[]⟩, .int .u64 0] 41) := ⟨_, rfl⟩
       obtain ⟨A_39, hA_⟩ : ∃ A, A = u_29.heap.size := ⟨_, rfl⟩
       have b_ := belA hu_
       have m_ := Mp.of_below (p := p) (b := b) b_
       have TW_39 := hd (TW_29.out.left m_)
       have PL_39 := hd (PL_29.out.below b_)
       have PR_39 := hd (PR_29.out.below b_)
       have R_A_39_39 : Hid (Row5 S5 u_39 A_39 ⟨0, ⟨#[]⟩, 0⟩) := hd (by rw [hu_, hA_]; exact Row5.new ⟨0, ⟨#[]⟩, 0⟩ (by have := TW_29.out.size; have := HS5.out; omega))
       have R_A_29_39 := hd (R_A_29_29.out.mp m_ LT5.out.1 LT5.out.2.1)
       have NE_A_29_A_39 : Hid (A_29 ≠ A_39) := hd (by have := lt_of_rowR R_A_29_29.out.1; omega)
       rw [← hu_, ← hA_]
       refine hK.out _ _ TW_39.out (fun _ => ?_)
       clear hK K hu_ hA_ b_ m_
       refine wpAnyH_ready (rs := [2]) (by kernel_rfl) (by simp) ?_
       refine AllReadyH.cons rfl (fun K hK => ?_) (AllReadyH.nil)
       ·go_simp
        refine (DA1.out u_39 PL_39.out).mono ?_; rintro e u_40 ⟨rfl, pl_, mp_⟩
        have PL_40 := hd pl_
        have PR_40 := hd (PL.othl PR_39.out mp_ DIS.out)
        have TW_40 := hd (TW_39.out.left mp_)
        have R_A_29_40 := hd (R_A_29_39.out.mp mp_ LT5.out.1 LT5.out.2.1)
        have R_A_39_40 := hd (R_A_39_39.out.mp mp_ LT5.out.1 LT5.out.2.1)
        clear pl_ mp_
        (try go_simp)
        refine hK.out _ _ TW_40.out (fun _ => ?_)
        clear hK K
        refine wpAnyH_ready (rs := [5]) (by kernel_rfl) (by simp) ?_
        refine AllReadyH.cons rfl (fun K hK => ?_) (AllReadyH.nil)
        ·go_simp
         refine (DB1.out u_40 PL_40.out).mono ?_; rintro e u_41 ⟨rfl, pl_, mp_⟩
         have PL_41 := hd pl_
         have PR_41 := hd (PL.othl PR_40.out mp_ DIS.out)
         have TW_41 := hd (TW_40.out.left mp_)
         have R_A_29_41 := hd (R_A_29_40.out.mp mp_ LT5.out.1 LT5.out.2.1)
         have R_A_39_41 := hd (R_A_39_40.out.mp mp_ LT5.out.1 LT5.out.2.1)
         clear pl_ mp_
         (try go_simp)
         refine hK.out _ _ TW_41.out (fun _ => ?_)
         clear hK K
         refine wpAnyH_ready (rs := [8]) (by kernel_rfl) (by simp) (AllReadyH.cons rfl (fun K hK => ?_) AllReadyH.nil)
         rw [if_pos (by rfl)]
         refine wp_store_row 41 _ _ rfl _ #[.int .i64 yae, .string yav, .int .u64 (yad : Int)] rfl rfl _ _ R_A_29_41.out.1 (by kernel_rfl) rfl ONEya.out ?_
         have TW_42 := hd (TW_41.out.sr HS5.out R_A_29_41.out.2 (rwp yae yav yad))
         have PL_42 := hd (PL.srl PL_41.out LT5.out R_A_29_41.out.2 (rwp yae yav yad))
         have PR_42 := hd (PL.srr PR_41.out LT5.out R_A_29_41.out.2 (rwp yae yav yad))
         have R_A_29_42 := hd (R_A_29_41.out.same ⟨yae, yav, yad⟩)
         have R_A_39_42 := hd (R_A_39_41.out.other (Ne.symm NE_A_29_A_39.out) (rwp yae yav yad))
         refine hK.out _ _ TW_42.out (fun _ => ?_)
         clear hK K
         refine wpAnyH_ready (rs := [9]) (by kernel_rfl) (by simp) (AllReadyH.cons rfl (fun K hK => ?_) AllReadyH.nil)
         rw [if_pos (by rfl)]
         refine wp_store_row 41 _ _ rfl _ #[.int .i64 ybe, .string ybv, .int .u64 (ybd : Int)] rfl rfl _ _ R_A_39_42.out.1 (by kernel_rfl) rfl ONEyb.out ?_
         have TW_43 := hd (TW_42.out.sr HS5.out R_A_39_42.out.2 (rwp ybe ybv ybd))
         have PL_43 := hd (PL.srl PL_42.out LT5.out R_A_39_42.out.2 (rwp ybe ybv ybd))
         have PR_43 := hd (PL.srr PR_42.out LT5.out R_A_39_42.out.2 (rwp ybe ybv ybd))
         have R_A_29_43 := hd (R_A_29_42.out.other NE_A_29_A_39.out (rwp ybe ybv ybd))
         have R_A_39_43 := hd (R_A_39_42.out.same ⟨ybe, ybv, ybd⟩)
         refine hK.out _ _ TW_43.out (fun _ => ?_)
         clear hK K
         refine wpAnyH_done (by kernel_rfl) ?_ _
         have fin_ : Fl ((u_41.setRow A_29 (rwp yae yav yad)).setRow A_39 (rwp ybe ybv ybd)) A_29 A_39 := HFl.out _ _ _ PL_43.out PR_43.out TW_43.out R_A_29_43.out R_A_39_43.out
         obtain ⟨Z, hZ⟩ : ∃ Z, Z = ((u_41.setRow A_29 #[.int .i64 yae, .string yav, .int .u64 (yad : Int)]).setRow A_39 #[.int .i64 ybe, .string ybv, .int .u64 (ybd : Int)]) := ⟨_, rfl⟩
         rw [← hZ] at ⊢
         change Fl _ _ _ at fin_
         rw [show ((u_41.setRow A_29 (rwp yae yav yad)).setRow A_39 (rwp ybe ybv ybd)) = Z from hZ.symm] at fin_
         clear hZ
         exact key Z A_29 A_39 fin_
     ·go_simp
      obtain ⟨u_44, hu_⟩ : ∃ x, x = Wd.alloc (.cells #[.int .i64 0, .string ⟨#[]⟩, .int .u64 0] 41) := ⟨_, rfl⟩
      obtain ⟨A_44, hA_⟩ : ∃ A, A = Wd.heap.size := ⟨_, rfl⟩
      have b_ := belA hu_
      have m_ := Mp.of_below (p := p) (b := b) b_
      have TW_44 := hd (TWd.out.left m_)
      have PL_44 := hd (PLd.out.below b_)
      have PR_44 := hd (PRd.out.below b_)
      have R_A_44_44 : Hid (Row5 S5 u_44 A_44 ⟨0, ⟨#[]⟩, 0⟩) := hd (by rw [hu_, hA_]; exact Row5.new ⟨0, ⟨#[]⟩, 0⟩ (by have := TWd.out.size; have := HS5.out; omega))
      rw [← hu_, ← hA_]
      refine hK.out _ _ TW_44.out (fun _ => ?_)
      clear hK K hu_ hA_ b_ m_
      refine wpAnyH_ready (rs := [2, 6]) (by kernel_rfl) (by simp) ?_
      refine AllReadyH.cons rfl (fun K hK => ?_) (AllReadyH.cons rfl (fun K hK => ?_) (AllReadyH.nil))
      ·go_simp
       refine (DA1.out u_44 PL_44.out).mono ?_; rintro e u_45 ⟨rfl, pl_, mp_⟩
       have PL_45 := hd pl_
       have PR_45 := hd (PL.othl PR_44.out mp_ DIS.out)
       have TW_45 := hd (TW_44.out.left mp_)
       have R_A_44_45 := hd (R_A_44_44.out.mp mp_ LT5.out.1 LT5.out.2.1)
       clear pl_ mp_
       (try go_simp)
       refine hK.out _ _ TW_45.out (fun _ => ?_)
       clear hK K
       refine wpAnyH_ready (rs := [5, 6]) (by kernel_rfl) (by simp) ?_
       refine AllReadyH.cons rfl (fun K hK => ?_) (AllReadyH.cons rfl (fun K hK => ?_) (AllReadyH.nil))
       ·go_simp
        refine (DB1.out u_45 PL_45.out).mono ?_; rintro e u_46 ⟨rfl, pl_, mp_⟩
        have PL_46 := hd pl_
        have PR_46 := hd (PL.othl PR_45.out mp_ DIS.out)
        have TW_46 := hd (TW_45.out.left mp_)
        have R_A_44_46 := hd (R_A_44_45.out.mp mp_ LT5.out.1 LT5.out.2.1)
        clear pl_ mp_
        (try go_simp)
        refine hK.out _ _ TW_46.out (fun _ => ?_)
        clear hK K
        refine wpAnyH_ready (rs := [6]) (by kernel_rfl) (by simp) ?_
        refine AllReadyH.cons rfl (fun K hK => ?_) (AllReadyH.nil)
        ·go_simp
         obtain ⟨u_47, hu_⟩ : ∃ x, x = u_46.alloc (.cells #[.int .i64 0, .string ⟨#[]⟩, .int .u64 0] 41) := ⟨_, rfl⟩
         obtain ⟨A_47, hA_⟩ : ∃ A, A = u_46.heap.size := ⟨_, rfl⟩
         have b_ := belA hu_
         have m_ := Mp.of_below (p := p) (b := b) b_
         have TW_47 := hd (TW_46.out.left m_)
         have PL_47 := hd (PL_46.out.below b_)
         have PR_47 := hd (PR_46.out.below b_)
         have R_A_47_47 : Hid (Row5 S5 u_47 A_47 ⟨0, ⟨#[]⟩, 0⟩) := hd (by rw [hu_, hA_]; exact Row5.new ⟨0, ⟨#[]⟩, 0⟩ (by have := TW_46.out.size; have := HS5.out; omega))
         have R_A_44_47 := hd (R_A_44_46.out.mp m_ LT5.out.1 LT5.out.2.1)
         have NE_A_44_A_47 : Hid (A_44 ≠ A_47) := hd (by have := lt_of_rowR R_A_44_46.out.1; omega)
         rw [← hu_, ← hA_]
         refine hK.out _ _ TW_47.out (fun _ => ?_)
         clear hK K hu_ hA_ b_ m_
         refine wpAnyH_ready (rs := [8]) (by kernel_rfl) (by simp) (AllReadyH.cons rfl (fun K hK => ?_) AllReadyH.nil)
         rw [if_pos (by rfl)]
         refine wp_store_row 41 _ _ rfl _ #[.int .i64 yae, .string yav, .int .u64 (yad : Int)] rfl rfl _ _ R_A_47_47.out.1 (by kernel_rfl) rfl ONEya.out ?_
         have TW_48 := hd (TW_47.out.sr HS5.out R_A_47_47.out.2 (rwp yae yav yad))
         have PL_48 := hd (PL.srl PL_47.out LT5.out R_A_47_47.out.2 (rwp yae yav yad))
         have PR_48 := hd (PL.srr PR_47.out LT5.out R_A_47_47.out.2 (rwp yae yav yad))
         have R_A_44_48 := hd (R_A_44_47.out.other NE_A_44_A_47.out (rwp yae yav yad))
         have R_A_47_48 := hd (R_A_47_47.out.same ⟨yae, yav, yad⟩)
         refine hK.out _ _ TW_48.out (fun _ => ?_)
         clear hK K
         refine wpAnyH_ready (rs := [9]) (by kernel_rfl) (by simp) (AllReadyH.cons rfl (fun K hK => ?_) AllReadyH.nil)
         rw [if_pos (by rfl)]
         refine wp_store_row 41 _ _ rfl _ #[.int .i64 ybe, .string ybv, .int .u64 (ybd : Int)] rfl rfl _ _ R_A_44_48.out.1 (by kernel_rfl) rfl ONEyb.out ?_
         have TW_49 := hd (TW_48.out.sr HS5.out R_A_44_48.out.2 (rwp ybe ybv ybd))
         have PL_49 := hd (PL.srl PL_48.out LT5.out R_A_44_48.out.2 (rwp ybe ybv ybd))
         have PR_49 := hd (PL.srr PR_48.out LT5.out R_A_44_48.out.2 (rwp ybe ybv ybd))
         have R_A_44_49 := hd (R_A_44_48.out.same ⟨ybe, ybv, ybd⟩)
         have R_A_47_49 := hd (R_A_47_48.out.other (Ne.symm NE_A_44_A_47.out) (rwp ybe ybv ybd))
         refine hK.out _ _ TW_49.out (fun _ => ?_)
         clear hK K
         refine wpAnyH_done (by kernel_rfl) ?_ _
         have fin_ : Fl ((u_47.setRow A_47 (rwp yae yav yad)).setRow A_44 (rwp ybe ybv ybd)) A_47 A_44 := HFl.out _ _ _ PL_49.out PR_49.out TW_49.out R_A_47_49.out R_A_44_49.out
         obtain ⟨Z, hZ⟩ : ∃ Z, Z = ((u_47.setRow A_47 #[.int .i64 yae, .string yav, .int .u64 (yad : Int)]).setRow A_44 #[.int .i64 ybe, .string ybv, .int .u64 (ybd : Int)]) := ⟨_, rfl⟩
         rw [← hZ] at ⊢
         change Fl _ _ _ at fin_
         rw [show ((u_47.setRow A_47 (rwp yae yav yad)).setRow A_44 (rwp ybe ybv ybd)) = Z from hZ.symm] at fin_
         clear hZ
         exact key Z A_47 A_44 fin_
       ·go_simp
        obtain ⟨u_50, hu_⟩ : ∃ x, x = u_45.alloc (.cells #[.int .i64 0, .string ⟨#[]⟩, .int .u64 0] 41) := ⟨_, rfl⟩
        obtain ⟨A_50, hA_⟩ : ∃ A, A = u_45.heap.size := ⟨_, rfl⟩
        have b_ := belA hu_
        have m_ := Mp.of_below (p := p) (b := b) b_
        have TW_50 := hd (TW_45.out.left m_)
        have PL_50 := hd (PL_45.out.below b_)
        have PR_50 := hd (PR_45.out.below b_)
        have R_A_50_50 : Hid (Row5 S5 u_50 A_50 ⟨0, ⟨#[]⟩, 0⟩) := hd (by rw [hu_, hA_]; exact Row5.new ⟨0, ⟨#[]⟩, 0⟩ (by have := TW_45.out.size; have := HS5.out; omega))
        have R_A_44_50 := hd (R_A_44_45.out.mp m_ LT5.out.1 LT5.out.2.1)
        have NE_A_44_A_50 : Hid (A_44 ≠ A_50) := hd (by have := lt_of_rowR R_A_44_45.out.1; omega)
        rw [← hu_, ← hA_]
        refine hK.out _ _ TW_50.out (fun _ => ?_)
        clear hK K hu_ hA_ b_ m_
        refine wpAnyH_ready (rs := [5]) (by kernel_rfl) (by simp) ?_
        refine AllReadyH.cons rfl (fun K hK => ?_) (AllReadyH.nil)
        ·go_simp
         refine (DB1.out u_50 PL_50.out).mono ?_; rintro e u_51 ⟨rfl, pl_, mp_⟩
         have PL_51 := hd pl_
         have PR_51 := hd (PL.othl PR_50.out mp_ DIS.out)
         have TW_51 := hd (TW_50.out.left mp_)
         have R_A_44_51 := hd (R_A_44_50.out.mp mp_ LT5.out.1 LT5.out.2.1)
         have R_A_50_51 := hd (R_A_50_50.out.mp mp_ LT5.out.1 LT5.out.2.1)
         clear pl_ mp_
         (try go_simp)
         refine hK.out _ _ TW_51.out (fun _ => ?_)
         clear hK K
         refine wpAnyH_ready (rs := [8]) (by kernel_rfl) (by simp) (AllReadyH.cons rfl (fun K hK => ?_) AllReadyH.nil)
         rw [if_pos (by rfl)]
         refine wp_store_row 41 _ _ rfl _ #[.int .i64 yae, .string yav, .int .u64 (yad : Int)] rfl rfl _ _ R_A_50_51.out.1 (by kernel_rfl) rfl ONEya.out ?_
         have TW_52 := hd (TW_51.out.sr HS5.out R_A_50_51.out.2 (rwp yae yav yad))
         have PL_52 := hd (PL.srl PL_51.out LT5.out R_A_50_51.out.2 (rwp yae yav yad))
         have PR_52 := hd (PL.srr PR_51.out LT5.out R_A_50_51.out.2 (rwp yae yav yad))
         have R_A_44_52 := hd (R_A_44_51.out.other NE_A_44_A_50.out (rwp yae yav yad))
         have R_A_50_52 := hd (R_A_50_51.out.same ⟨yae, yav, yad⟩)
         refine hK.out _ _ TW_52.out (fun _ => ?_)
         clear hK K
         refine wpAnyH_ready (rs := [9]) (by kernel_rfl) (by simp) (AllReadyH.cons rfl (fun K hK => ?_) AllReadyH.nil)
         rw [if_pos (by rfl)]
         refine wp_store_row 41 _ _ rfl _ #[.int .i64 ybe, .string ybv, .int .u64 (ybd : Int)] rfl rfl _ _ R_A_44_52.out.1 (by kernel_rfl) rfl ONEyb.out ?_
         have TW_53 := hd (TW_52.out.sr HS5.out R_A_44_52.out.2 (rwp ybe ybv ybd))
         have PL_53 := hd (PL.srl PL_52.out LT5.out R_A_44_52.out.2 (rwp ybe ybv ybd))
         have PR_53 := hd (PL.srr PR_52.out LT5.out R_A_44_52.out.2 (rwp ybe ybv ybd))
         have R_A_44_53 := hd (R_A_44_52.out.same ⟨ybe, ybv, ybd⟩)
         have R_A_50_53 := hd (R_A_50_52.out.other (Ne.symm NE_A_44_A_50.out) (rwp ybe ybv ybd))
         refine hK.out _ _ TW_53.out (fun _ => ?_)
         clear hK K
         refine wpAnyH_done (by kernel_rfl) ?_ _
         have fin_ : Fl ((u_51.setRow A_50 (rwp yae yav yad)).setRow A_44 (rwp ybe ybv ybd)) A_50 A_44 := HFl.out _ _ _ PL_53.out PR_53.out TW_53.out R_A_50_53.out R_A_44_53.out
         obtain ⟨Z, hZ⟩ : ∃ Z, Z = ((u_51.setRow A_50 #[.int .i64 yae, .string yav, .int .u64 (yad : Int)]).setRow A_44 #[.int .i64 ybe, .string ybv, .int .u64 (ybd : Int)]) := ⟨_, rfl⟩
         rw [← hZ] at ⊢
         change Fl _ _ _ at fin_
         rw [show ((u_51.setRow A_50 (rwp yae yav yad)).setRow A_44 (rwp ybe ybv ybd)) = Z from hZ.symm] at fin_
         clear hZ
         exact key Z A_50 A_44 fin_
      ·go_simp
       obtain ⟨u_54, hu_⟩ : ∃ x, x = u_44.alloc (.cells #[.int .i64 0, .string ⟨#[]⟩, .int .u64 0] 41) := ⟨_, rfl⟩
       obtain ⟨A_54, hA_⟩ : ∃ A, A = u_44.heap.size := ⟨_, rfl⟩
       have b_ := belA hu_
       have m_ := Mp.of_below (p := p) (b := b) b_
       have TW_54 := hd (TW_44.out.left m_)
       have PL_54 := hd (PL_44.out.below b_)
       have PR_54 := hd (PR_44.out.below b_)
       have R_A_54_54 : Hid (Row5 S5 u_54 A_54 ⟨0, ⟨#[]⟩, 0⟩) := hd (by rw [hu_, hA_]; exact Row5.new ⟨0, ⟨#[]⟩, 0⟩ (by have := TW_44.out.size; have := HS5.out; omega))
       have R_A_44_54 := hd (R_A_44_44.out.mp m_ LT5.out.1 LT5.out.2.1)
       have NE_A_44_A_54 : Hid (A_44 ≠ A_54) := hd (by have := lt_of_rowR R_A_44_44.out.1; omega)
       rw [← hu_, ← hA_]
       refine hK.out _ _ TW_54.out (fun _ => ?_)
       clear hK K hu_ hA_ b_ m_
       refine wpAnyH_ready (rs := [2]) (by kernel_rfl) (by simp) ?_
       refine AllReadyH.cons rfl (fun K hK => ?_) (AllReadyH.nil)
       ·go_simp
        refine (DA1.out u_54 PL_54.out).mono ?_; rintro e u_55 ⟨rfl, pl_, mp_⟩
        have PL_55 := hd pl_
        have PR_55 := hd (PL.othl PR_54.out mp_ DIS.out)
        have TW_55 := hd (TW_54.out.left mp_)
        have R_A_44_55 := hd (R_A_44_54.out.mp mp_ LT5.out.1 LT5.out.2.1)
        have R_A_54_55 := hd (R_A_54_54.out.mp mp_ LT5.out.1 LT5.out.2.1)
        clear pl_ mp_
        (try go_simp)
        refine hK.out _ _ TW_55.out (fun _ => ?_)
        clear hK K
        refine wpAnyH_ready (rs := [5]) (by kernel_rfl) (by simp) ?_
        refine AllReadyH.cons rfl (fun K hK => ?_) (AllReadyH.nil)
        ·go_simp
         refine (DB1.out u_55 PL_55.out).mono ?_; rintro e u_56 ⟨rfl, pl_, mp_⟩
         have PL_56 := hd pl_
         have PR_56 := hd (PL.othl PR_55.out mp_ DIS.out)
         have TW_56 := hd (TW_55.out.left mp_)
         have R_A_44_56 := hd (R_A_44_55.out.mp mp_ LT5.out.1 LT5.out.2.1)
         have R_A_54_56 := hd (R_A_54_55.out.mp mp_ LT5.out.1 LT5.out.2.1)
         clear pl_ mp_
         (try go_simp)
         refine hK.out _ _ TW_56.out (fun _ => ?_)
         clear hK K
         refine wpAnyH_ready (rs := [8]) (by kernel_rfl) (by simp) (AllReadyH.cons rfl (fun K hK => ?_) AllReadyH.nil)
         rw [if_pos (by rfl)]
         refine wp_store_row 41 _ _ rfl _ #[.int .i64 yae, .string yav, .int .u64 (yad : Int)] rfl rfl _ _ R_A_54_56.out.1 (by kernel_rfl) rfl ONEya.out ?_
         have TW_57 := hd (TW_56.out.sr HS5.out R_A_54_56.out.2 (rwp yae yav yad))
         have PL_57 := hd (PL.srl PL_56.out LT5.out R_A_54_56.out.2 (rwp yae yav yad))
         have PR_57 := hd (PL.srr PR_56.out LT5.out R_A_54_56.out.2 (rwp yae yav yad))
         have R_A_44_57 := hd (R_A_44_56.out.other NE_A_44_A_54.out (rwp yae yav yad))
         have R_A_54_57 := hd (R_A_54_56.out.same ⟨yae, yav, yad⟩)
         refine hK.out _ _ TW_57.out (fun _ => ?_)
         clear hK K
         refine wpAnyH_ready (rs := [9]) (by kernel_rfl) (by simp) (AllReadyH.cons rfl (fun K hK => ?_) AllReadyH.nil)
         rw [if_pos (by rfl)]
         refine wp_store_row 41 _ _ rfl _ #[.int .i64 ybe, .string ybv, .int .u64 (ybd : Int)] rfl rfl _ _ R_A_44_57.out.1 (by kernel_rfl) rfl ONEyb.out ?_
         have TW_58 := hd (TW_57.out.sr HS5.out R_A_44_57.out.2 (rwp ybe ybv ybd))
         have PL_58 := hd (PL.srl PL_57.out LT5.out R_A_44_57.out.2 (rwp ybe ybv ybd))
         have PR_58 := hd (PL.srr PR_57.out LT5.out R_A_44_57.out.2 (rwp ybe ybv ybd))
         have R_A_44_58 := hd (R_A_44_57.out.same ⟨ybe, ybv, ybd⟩)
         have R_A_54_58 := hd (R_A_54_57.out.other (Ne.symm NE_A_44_A_54.out) (rwp ybe ybv ybd))
         refine hK.out _ _ TW_58.out (fun _ => ?_)
         clear hK K
         refine wpAnyH_done (by kernel_rfl) ?_ _
         have fin_ : Fl ((u_56.setRow A_54 (rwp yae yav yad)).setRow A_44 (rwp ybe ybv ybd)) A_54 A_44 := HFl.out _ _ _ PL_58.out PR_58.out TW_58.out R_A_54_58.out R_A_44_58.out
         obtain ⟨Z, hZ⟩ : ∃ Z, Z = ((u_56.setRow A_54 #[.int .i64 yae, .string yav, .int .u64 (yad : Int)]).setRow A_44 #[.int .i64 ybe, .string ybv, .int .u64 (ybd : Int)]) := ⟨_, rfl⟩
         rw [← hZ] at ⊢
         change Fl _ _ _ at fin_
         rw [show ((u_56.setRow A_54 (rwp yae yav yad)).setRow A_44 (rwp ybe ybv ybd)) = Z from hZ.symm] at fin_
         clear hZ
         exact key Z A_54 A_44 fin_
    intro v1 A B hf1
    rw [HFl2.out] at hf1
    obtain ⟨pl1, pr1, tw1, ra1, rb1⟩ := hf1
    have PL1 := Lib.hid pl1
    have PR1 := Lib.hid pr1
    have TW1 := Lib.hid tw1
    have RA1 := Lib.hid ra1
    have RB1 := Lib.hid rb1
    clear pl1 pr1 tw1 ra1 rb1 PLd PRd TWd
    go_wp2_with fail
    refine wp_region_held (S := fun V => Two w5 V p b p' b') (by kernel_rfl) ?_
    have hS0 : Two w5 { v1 with drawn := v1.drawn + 1 } p b p' b' := ⟨TW1.out.os, TW1.out.tape, TW1.out.output, TW1.out.size, TW1.out.block⟩
    have e0 := fun V h => (XC.out V h).1
    have e1 := fun V h => (XC.out V h).2.1
    have e2 := fun V h => (XC.out V h).2.2.1
    have e3 := fun V h => (XC.out V h).2.2.2
    have g0 := fun V h => (YC.out V h).1
    have g1 := fun V h => (YC.out V h).2.1
    have g2 := fun V h => (YC.out V h).2.2.1
    have g3 := fun V h => (YC.out V h).2.2.2
    refine wpAnyH_take (i := 0) (v := .pointer (some ⟨p', 0, none⟩)) rfl (by kernel_rfl) ?_ ?_ (fun _ _ _ h => h) (Or.inl ⟨by rfl, ?_⟩) hS0 ?_
    · kernel_rfl
    · kernel_rfl
    · intro V hV; go_simp
    refine wpAnyH_take (i := 1) (v := .agg #[.int .i64 kb, .string ib, .string vb, .float .f64 xb]) rfl (by kernel_rfl) ?_ ?_ (fun _ _ _ h => h) (Or.inl ⟨by rfl, ?_⟩) hS0 ?_
    · kernel_rfl
    · kernel_rfl
    · intro V hV; go_simp
    refine wpAnyH_take (i := 3) (v := .pointer (some ⟨p', 0, none⟩)) rfl (by kernel_rfl) ?_ ?_ (fun _ _ _ h => h) (Or.inl ⟨by rfl, ?_⟩) hS0 ?_
    · kernel_rfl
    · kernel_rfl
    · intro V hV; go_simp
    refine wpAnyH_take (i := 4) (v := .agg #[.int .i64 ka, .string ia, .string va, .float .f64 xa]) rfl (by kernel_rfl) ?_ ?_ (fun _ _ _ h => h) (Or.inl ⟨by rfl, ?_⟩) hS0 ?_
    · kernel_rfl
    · kernel_rfl
    · intro V hV; go_simp
    obtain ⟨Wd, hWd⟩ : ∃ x, x = { v1 with drawn := v1.drawn + 1 } := ⟨_, rfl⟩
    have bd : Below v1.heap.size v1 Wd := by rw [hWd]; exact ⟨rfl, rfl, rfl, Nat.le_refl _, fun _ _ => rfl⟩
    rw [← hWd]
    have PLd := Lib.hid (PL1.out.below bd)
    have PRd := Lib.hid (PR1.out.below bd)
    have TWd := Lib.hid (TW1.out.left (Mp.of_below (p := p) (b := b) bd))
    have RAd := Lib.hid (RA1.out.mp (Mp.of_below (p := p) (b := b) bd) LT5.out.1 LT5.out.2.1)
    have RBd := Lib.hid (RB1.out.mp (Mp.of_below (p := p) (b := b) bd) LT5.out.1 LT5.out.2.1)
    clear hWd hS0 bd e0 e1 e2 e3 g0 g1 g2 g3 PL1 PR1 TW1 RA1 RB1
    obtain ⟨Fr, hFr⟩ : ∃ F : World → Nat → Nat → Prop, F = fun V C D => PL V p b (m + 1 + 1) now 1000 fab ∧ PL V p' b' (m + 1 + 1) now 1000 fab ∧ Two w5 V p b p' b' ∧ Row5 S5 V A ⟨yae, yav, yad⟩ ∧ Row5 S5 V B ⟨ybe, ybv, ybd⟩ ∧ Row5 S5 V C ⟨ybe, ybv, ybd⟩ ∧ Row5 S5 V D ⟨yae, yav, yad⟩ := ⟨_, rfl⟩
    have HFr : Hid (∀ V C D, PL V p b (m + 1 + 1) now 1000 fab → PL V p' b' (m + 1 + 1) now 1000 fab → Two w5 V p b p' b' → Row5 S5 V A ⟨yae, yav, yad⟩ → Row5 S5 V B ⟨ybe, ybv, ybd⟩ → Row5 S5 V C ⟨ybe, ybv, ybd⟩ → Row5 S5 V D ⟨yae, yav, yad⟩ → Fr V C D) := Lib.hid (by rw [hFr]; exact fun V C D a b c d e f g => ⟨a, b, c, d, e, f, g⟩)
    have HFr2 := Lib.hid hFr
    clear hFr
    apply split_key (F := Fr)
    ·intro key
     refine wpAnyH_ready (rs := [2, 6, 7]) (by kernel_rfl) (by simp) ?_
     refine AllReadyH.cons rfl (fun K hK => ?_) (AllReadyH.cons rfl (fun K hK => ?_) (AllReadyH.cons rfl (fun K hK => ?_) (AllReadyH.nil)))
     ·go_simp
      refine (DB2.out Wd PRd.out).mono ?_; rintro e u_59 ⟨rfl, pl_, mp_⟩
      have PR_59 := hd pl_
      have PL_59 := hd (PL.othr PLd.out mp_ DIS.out)
      have TW_59 := hd (TWd.out.right mp_)
      have R_A_59 := hd (RAd.out.mp mp_ LT5.out.2.2.1 LT5.out.2.2.2)
      have R_B_59 := hd (RBd.out.mp mp_ LT5.out.2.2.1 LT5.out.2.2.2)
      clear pl_ mp_
      (try go_simp)
      refine hK.out _ _ TW_59.out (fun _ => ?_)
      clear hK K
      refine wpAnyH_ready (rs := [5, 6, 7]) (by kernel_rfl) (by simp) ?_
      refine AllReadyH.cons rfl (fun K hK => ?_) (AllReadyH.cons rfl (fun K hK => ?_) (AllReadyH.cons rfl (fun K hK => ?_) (AllReadyH.nil)))
      ·go_simp
       refine (DA2.out u_59 PR_59.out).mono ?_; rintro e u_60 ⟨rfl, pl_, mp_⟩
       have PR_60 := hd pl_
       have PL_60 := hd (PL.othr PL_59.out mp_ DIS.out)
       have TW_60 := hd (TW_59.out.right mp_)
       have R_A_60 := hd (R_A_59.out.mp mp_ LT5.out.2.2.1 LT5.out.2.2.2)
       have R_B_60 := hd (R_B_59.out.mp mp_ LT5.out.2.2.1 LT5.out.2.2.2)
       clear pl_ mp_
       (try go_simp)
       refine hK.out _ _ TW_60.out (fun _ => ?_)
       clear hK K
       refine wpAnyH_ready (rs := [6, 7]) (by kernel_rfl) (by simp) ?_
       refine AllReadyH.cons rfl (fun K hK => ?_) (AllReadyH.cons rfl (fun K hK => ?_) (AllReadyH.nil))
       ·go_simp
        obtain ⟨u_61, hu_⟩ : ∃ x, x = u_60.alloc (.cells #[.int .i64 0, .string ⟨#[]⟩, .int .u64 0] 41) := ⟨_, rfl⟩
        obtain ⟨A_61, hA_⟩ : ∃ A, A = u_60.heap.size := ⟨_, rfl⟩
        have b_ := belA hu_
        have m_ := Mp.of_below (p := p) (b := b) b_
        have TW_61 := hd (TW_60.out.left m_)
        have PL_61 := hd (PL_60.out.below b_)
        have PR_61 := hd (PR_60.out.below b_)
        have R_A_61_61 : Hid (Row5 S5 u_61 A_61 ⟨0, ⟨#[]⟩, 0⟩) := hd (by rw [hu_, hA_]; exact Row5.new ⟨0, ⟨#[]⟩, 0⟩ (by have := TW_60.out.size; have := HS5.out; omega))
        have R_A_61 := hd (R_A_60.out.mp m_ LT5.out.1 LT5.out.2.1)
        have NE_A_A_61 : Hid (A ≠ A_61) := hd (by have := lt_of_rowR R_A_60.out.1; omega)
        have R_B_61 := hd (R_B_60.out.mp m_ LT5.out.1 LT5.out.2.1)
        have NE_B_A_61 : Hid (B ≠ A_61) := hd (by have := lt_of_rowR R_B_60.out.1; omega)
        rw [← hu_, ← hA_]
        refine hK.out _ _ TW_61.out (fun _ => ?_)
        clear hK K hu_ hA_ b_ m_
        refine wpAnyH_ready (rs := [7]) (by kernel_rfl) (by simp) ?_
        refine AllReadyH.cons rfl (fun K hK => ?_) (AllReadyH.nil)
        ·go_simp
         obtain ⟨u_62, hu_⟩ : ∃ x, x = u_61.alloc (.cells #[.int .i64 0, .string ⟨#[]⟩, .int .u64 0] 41) := ⟨_, rfl⟩
         obtain ⟨A_62, hA_⟩ : ∃ A, A = u_61.heap.size := ⟨_, rfl⟩
         have b_ := belA hu_
         have m_ := Mp.of_below (p := p) (b := b) b_
         have TW_62 := hd (TW_61.out.left m_)
         have PL_62 := hd (PL_61.out.below b_)
         have PR_62 := hd (PR_61.out.below b_)
         have R_A_62_62 : Hid (Row5 S5 u_62 A_62 ⟨0, ⟨#[]⟩, 0⟩) := hd (by rw [hu_, hA_]; exact Row5.new ⟨0, ⟨#[]⟩, 0⟩ (by have := TW_61.out.size; have := HS5.out; omega))
         have R_A_62 := hd (R_A_61.out.mp m_ LT5.out.1 LT5.out.2.1)
         have NE_A_A_62 : Hid (A ≠ A_62) := hd (by have := lt_of_rowR R_A_61.out.1; omega)
         have R_B_62 := hd (R_B_61.out.mp m_ LT5.out.1 LT5.out.2.1)
         have NE_B_A_62 : Hid (B ≠ A_62) := hd (by have := lt_of_rowR R_B_61.out.1; omega)
         have R_A_61_62 := hd (R_A_61_61.out.mp m_ LT5.out.1 LT5.out.2.1)
         have NE_A_61_A_62 : Hid (A_61 ≠ A_62) := hd (by have := lt_of_rowR R_A_61_61.out.1; omega)
         rw [← hu_, ← hA_]
         refine hK.out _ _ TW_62.out (fun _ => ?_)
         clear hK K hu_ hA_ b_ m_
         refine wpAnyH_ready (rs := [8]) (by kernel_rfl) (by simp) (AllReadyH.cons rfl (fun K hK => ?_) AllReadyH.nil)
         rw [if_pos (by rfl)]
         refine wp_store_row 41 _ _ rfl _ #[.int .i64 ybe, .string ybv, .int .u64 (ybd : Int)] rfl rfl _ _ R_A_61_62.out.1 (by kernel_rfl) rfl ONEyb.out ?_
         have TW_63 := hd (TW_62.out.sr HS5.out R_A_61_62.out.2 (rwp ybe ybv ybd))
         have PL_63 := hd (PL.srl PL_62.out LT5.out R_A_61_62.out.2 (rwp ybe ybv ybd))
         have PR_63 := hd (PL.srr PR_62.out LT5.out R_A_61_62.out.2 (rwp ybe ybv ybd))
         have R_A_63 := hd (R_A_62.out.other NE_A_A_61.out (rwp ybe ybv ybd))
         have R_B_63 := hd (R_B_62.out.other NE_B_A_61.out (rwp ybe ybv ybd))
         have R_A_61_63 := hd (R_A_61_62.out.same ⟨ybe, ybv, ybd⟩)
         have R_A_62_63 := hd (R_A_62_62.out.other (Ne.symm NE_A_61_A_62.out) (rwp ybe ybv ybd))
         refine hK.out _ _ TW_63.out (fun _ => ?_)
         clear hK K
         refine wpAnyH_ready (rs := [9]) (by kernel_rfl) (by simp) (AllReadyH.cons rfl (fun K hK => ?_) AllReadyH.nil)
         rw [if_pos (by rfl)]
         refine wp_store_row 41 _ _ rfl _ #[.int .i64 yae, .string yav, .int .u64 (yad : Int)] rfl rfl _ _ R_A_62_63.out.1 (by kernel_rfl) rfl ONEya.out ?_
         have TW_64 := hd (TW_63.out.sr HS5.out R_A_62_63.out.2 (rwp yae yav yad))
         have PL_64 := hd (PL.srl PL_63.out LT5.out R_A_62_63.out.2 (rwp yae yav yad))
         have PR_64 := hd (PL.srr PR_63.out LT5.out R_A_62_63.out.2 (rwp yae yav yad))
         have R_A_64 := hd (R_A_63.out.other NE_A_A_62.out (rwp yae yav yad))
         have R_B_64 := hd (R_B_63.out.other NE_B_A_62.out (rwp yae yav yad))
         have R_A_61_64 := hd (R_A_61_63.out.other NE_A_61_A_62.out (rwp yae yav yad))
         have R_A_62_64 := hd (R_A_62_63.out.same ⟨yae, yav, yad⟩)
         refine hK.out _ _ TW_64.out (fun _ => ?_)
         clear hK K
         refine wpAnyH_done (by kernel_rfl) ?_ _
         have fin_ : Fr ((u_62.setRow A_61 (rwp ybe ybv ybd)).setRow A_62 (rwp yae yav yad)) A_61 A_62 := HFr.out _ _ _ PL_64.out PR_64.out TW_64.out R_A_64.out R_B_64.out R_A_61_64.out R_A_62_64.out
         obtain ⟨Z, hZ⟩ : ∃ Z, Z = ((u_62.setRow A_61 #[.int .i64 ybe, .string ybv, .int .u64 (ybd : Int)]).setRow A_62 #[.int .i64 yae, .string yav, .int .u64 (yad : Int)]) := ⟨_, rfl⟩
         rw [← hZ] at ⊢
         change Fr _ _ _ at fin_
         rw [show ((u_62.setRow A_61 (rwp ybe ybv ybd)).setRow A_62 (rwp yae yav yad)) = Z from hZ.symm] at fin_
         clear hZ
         exact key Z A_61 A_62 fin_
       ·go_simp
        obtain ⟨u_65, hu_⟩ : ∃ x, x = u_60.alloc (.cells #[.int .i64 0, .string ⟨#[]⟩, .int .u64 0] 41) := ⟨_, rfl⟩
        obtain ⟨A_65, hA_⟩ : ∃ A, A = u_60.heap.size := ⟨_, rfl⟩
        have b_ := belA hu_
        have m_ := Mp.of_below (p := p) (b := b) b_
        have TW_65 := hd (TW_60.out.left m_)
        have PL_65 := hd (PL_60.out.below b_)
        have PR_65 := hd (PR_60.out.below b_)
        have R_A_65_65 : Hid (Row5 S5 u_65 A_65 ⟨0, ⟨#[]⟩, 0⟩) := hd (by rw [hu_, hA_]; exact Row5.new ⟨0, ⟨#[]⟩, 0⟩ (by have := TW_60.out.size; have := HS5.out; omega))
        have R_A_65 := hd (R_A_60.out.mp m_ LT5.out.1 LT5.out.2.1)
        have NE_A_A_65 : Hid (A ≠ A_65) := hd (by have := lt_of_rowR R_A_60.out.1; omega)
        have R_B_65 := hd (R_B_60.out.mp m_ LT5.out.1 LT5.out.2.1)
        have NE_B_A_65 : Hid (B ≠ A_65) := hd (by have := lt_of_rowR R_B_60.out.1; omega)
        rw [← hu_, ← hA_]
        refine hK.out _ _ TW_65.out (fun _ => ?_)
        clear hK K hu_ hA_ b_ m_
        refine wpAnyH_ready (rs := [6]) (by kernel_rfl) (by simp) ?_
        refine AllReadyH.cons rfl (fun K hK => ?_) (AllReadyH.nil)
        ·go_simp
         obtain ⟨u_66, hu_⟩ : ∃ x, x = u_65.alloc (.cells #[.int .i64 0, .string ⟨#[]⟩, .int .u64 0] 41) := ⟨_, rfl⟩
         obtain ⟨A_66, hA_⟩ : ∃ A, A = u_65.heap.size := ⟨_, rfl⟩
         have b_ := belA hu_
         have m_ := Mp.of_below (p := p) (b := b) b_
         have TW_66 := hd (TW_65.out.left m_)
         have PL_66 := hd (PL_65.out.below b_)
         have PR_66 := hd (PR_65.out.below b_)
         have R_A_66_66 : Hid (Row5 S5 u_66 A_66 ⟨0, ⟨#[]⟩, 0⟩) := hd (by rw [hu_, hA_]; exact Row5.new ⟨0, ⟨#[]⟩, 0⟩ (by have := TW_65.out.size; have := HS5.out; omega))
         have R_A_66 := hd (R_A_65.out.mp m_ LT5.out.1 LT5.out.2.1)
         have NE_A_A_66 : Hid (A ≠ A_66) := hd (by have := lt_of_rowR R_A_65.out.1; omega)
         have R_B_66 := hd (R_B_65.out.mp m_ LT5.out.1 LT5.out.2.1)
         have NE_B_A_66 : Hid (B ≠ A_66) := hd (by have := lt_of_rowR R_B_65.out.1; omega)
         have R_A_65_66 := hd (R_A_65_65.out.mp m_ LT5.out.1 LT5.out.2.1)
         have NE_A_65_A_66 : Hid (A_65 ≠ A_66) := hd (by have := lt_of_rowR R_A_65_65.out.1; omega)
         rw [← hu_, ← hA_]
         refine hK.out _ _ TW_66.out (fun _ => ?_)
         clear hK K hu_ hA_ b_ m_
         refine wpAnyH_ready (rs := [8]) (by kernel_rfl) (by simp) (AllReadyH.cons rfl (fun K hK => ?_) AllReadyH.nil)
         rw [if_pos (by rfl)]
         refine wp_store_row 41 _ _ rfl _ #[.int .i64 ybe, .string ybv, .int .u64 (ybd : Int)] rfl rfl _ _ R_A_66_66.out.1 (by kernel_rfl) rfl ONEyb.out ?_
         have TW_67 := hd (TW_66.out.sr HS5.out R_A_66_66.out.2 (rwp ybe ybv ybd))
         have PL_67 := hd (PL.srl PL_66.out LT5.out R_A_66_66.out.2 (rwp ybe ybv ybd))
         have PR_67 := hd (PL.srr PR_66.out LT5.out R_A_66_66.out.2 (rwp ybe ybv ybd))
         have R_A_67 := hd (R_A_66.out.other NE_A_A_66.out (rwp ybe ybv ybd))
         have R_B_67 := hd (R_B_66.out.other NE_B_A_66.out (rwp ybe ybv ybd))
         have R_A_65_67 := hd (R_A_65_66.out.other NE_A_65_A_66.out (rwp ybe ybv ybd))
         have R_A_66_67 := hd (R_A_66_66.out.same ⟨ybe, ybv, ybd⟩)
         refine hK.out _ _ TW_67.out (fun _ => ?_)
         clear hK K
         refine wpAnyH_ready (rs := [9]) (by kernel_rfl) (by simp) (AllReadyH.cons rfl (fun K hK => ?_) AllReadyH.nil)
         rw [if_pos (by rfl)]
         refine wp_store_row 41 _ _ rfl _ #[.int .i64 yae, .string yav, .int .u64 (yad : Int)] rfl rfl _ _ R_A_65_67.out.1 (by kernel_rfl) rfl ONEya.out ?_
         have TW_68 := hd (TW_67.out.sr HS5.out R_A_65_67.out.2 (rwp yae yav yad))
         have PL_68 := hd (PL.srl PL_67.out LT5.out R_A_65_67.out.2 (rwp yae yav yad))
         have PR_68 := hd (PL.srr PR_67.out LT5.out R_A_65_67.out.2 (rwp yae yav yad))
         have R_A_68 := hd (R_A_67.out.other NE_A_A_65.out (rwp yae yav yad))
         have R_B_68 := hd (R_B_67.out.other NE_B_A_65.out (rwp yae yav yad))
         have R_A_65_68 := hd (R_A_65_67.out.same ⟨yae, yav, yad⟩)
         have R_A_66_68 := hd (R_A_66_67.out.other (Ne.symm NE_A_65_A_66.out) (rwp yae yav yad))
         refine hK.out _ _ TW_68.out (fun _ => ?_)
         clear hK K
         refine wpAnyH_done (by kernel_rfl) ?_ _
         have fin_ : Fr ((u_66.setRow A_66 (rwp ybe ybv ybd)).setRow A_65 (rwp yae yav yad)) A_66 A_65 := HFr.out _ _ _ PL_68.out PR_68.out TW_68.out R_A_68.out R_B_68.out R_A_66_68.out R_A_65_68.out
         obtain ⟨Z, hZ⟩ : ∃ Z, Z = ((u_66.setRow A_66 #[.int .i64 ybe, .string ybv, .int .u64 (ybd : Int)]).setRow A_65 #[.int .i64 yae, .string yav, .int .u64 (yad : Int)]) := ⟨_, rfl⟩
         rw [← hZ] at ⊢
         change Fr _ _ _ at fin_
         rw [show ((u_66.setRow A_66 (rwp ybe ybv ybd)).setRow A_65 (rwp yae yav yad)) = Z from hZ.symm] at fin_
         clear hZ
         exact key Z A_66 A_65 fin_
      ·go_simp
       obtain ⟨u_69, hu_⟩ : ∃ x, x = u_59.alloc (.cells #[.int .i64 0, .string ⟨#[]⟩, .int .u64 0] 41) := ⟨_, rfl⟩
       obtain ⟨A_69, hA_⟩ : ∃ A, A = u_59.heap.size := ⟨_, rfl⟩
       have b_ := belA hu_
       have m_ := Mp.of_below (p := p) (b := b) b_
       have TW_69 := hd (TW_59.out.left m_)
       have PL_69 := hd (PL_59.out.below b_)
       have PR_69 := hd (PR_59.out.below b_)
       have R_A_69_69 : Hid (Row5 S5 u_69 A_69 ⟨0, ⟨#[]⟩, 0⟩) := hd (by rw [hu_, hA_]; exact Row5.new ⟨0, ⟨#[]⟩, 0⟩ (by have := TW_59.out.size; have := HS5.out; omega))
       have R_A_69 := hd (R_A_59.out.mp m_ LT5.out.1 LT5.out.2.1)
       have NE_A_A_69 : Hid (A ≠ A_69) := hd (by have := lt_of_rowR R_A_59.out.1; omega)
       have R_B_69 := hd (R_B_59.out.mp m_ LT5.out.1 LT5.out.2.1)
       have NE_B_A_69 : Hid (B ≠ A_69) := hd (by have := lt_of_rowR R_B_59.out.1; omega)
       rw [← hu_, ← hA_]
       refine hK.out _ _ TW_69.out (fun _ => ?_)
       clear hK K hu_ hA_ b_ m_
       refine wpAnyH_ready (rs := [5, 7]) (by kernel_rfl) (by simp) ?_
       refine AllReadyH.cons rfl (fun K hK => ?_) (AllReadyH.cons rfl (fun K hK => ?_) (AllReadyH.nil))
       ·go_simp
        refine (DA2.out u_69 PR_69.out).mono ?_; rintro e u_70 ⟨rfl, pl_, mp_⟩
        have PR_70 := hd pl_
        have PL_70 := hd (PL.othr PL_69.out mp_ DIS.out)
        have TW_70 := hd (TW_69.out.right mp_)
        have R_A_70 := hd (R_A_69.out.mp mp_ LT5.out.2.2.1 LT5.out.2.2.2)
        have R_B_70 := hd (R_B_69.out.mp mp_ LT5.out.2.2.1 LT5.out.2.2.2)
        have R_A_69_70 := hd (R_A_69_69.out.mp mp_ LT5.out.2.2.1 LT5.out.2.2.2)
        clear pl_ mp_
        (try go_simp)
        refine hK.out _ _ TW_70.out (fun _ => ?_)
        clear hK K
        refine wpAnyH_ready (rs := [7]) (by kernel_rfl) (by simp) ?_
        refine AllReadyH.cons rfl (fun K hK => ?_) (AllReadyH.nil)
        ·go_simp
         obtain ⟨u_71, hu_⟩ : ∃ x, x = u_70.alloc (.cells #[.int .i64 0, .string ⟨#[]⟩, .int .u64 0] 41) := ⟨_, rfl⟩
         obtain ⟨A_71, hA_⟩ : ∃ A, A = u_70.heap.size := ⟨_, rfl⟩
         have b_ := belA hu_
         have m_ := Mp.of_below (p := p) (b := b) b_
         have TW_71 := hd (TW_70.out.left m_)
         have PL_71 := hd (PL_70.out.below b_)
         have PR_71 := hd (PR_70.out.below b_)
         have R_A_71_71 : Hid (Row5 S5 u_71 A_71 ⟨0, ⟨#[]⟩, 0⟩) := hd (by rw [hu_, hA_]; exact Row5.new ⟨0, ⟨#[]⟩, 0⟩ (by have := TW_70.out.size; have := HS5.out; omega))
         have R_A_71 := hd (R_A_70.out.mp m_ LT5.out.1 LT5.out.2.1)
         have NE_A_A_71 : Hid (A ≠ A_71) := hd (by have := lt_of_rowR R_A_70.out.1; omega)
         have R_B_71 := hd (R_B_70.out.mp m_ LT5.out.1 LT5.out.2.1)
         have NE_B_A_71 : Hid (B ≠ A_71) := hd (by have := lt_of_rowR R_B_70.out.1; omega)
         have R_A_69_71 := hd (R_A_69_70.out.mp m_ LT5.out.1 LT5.out.2.1)
         have NE_A_69_A_71 : Hid (A_69 ≠ A_71) := hd (by have := lt_of_rowR R_A_69_70.out.1; omega)
         rw [← hu_, ← hA_]
         refine hK.out _ _ TW_71.out (fun _ => ?_)
         clear hK K hu_ hA_ b_ m_
         refine wpAnyH_ready (rs := [8]) (by kernel_rfl) (by simp) (AllReadyH.cons rfl (fun K hK => ?_) AllReadyH.nil)
         rw [if_pos (by rfl)]
         refine wp_store_row 41 _ _ rfl _ #[.int .i64 ybe, .string ybv, .int .u64 (ybd : Int)] rfl rfl _ _ R_A_69_71.out.1 (by kernel_rfl) rfl ONEyb.out ?_
         have TW_72 := hd (TW_71.out.sr HS5.out R_A_69_71.out.2 (rwp ybe ybv ybd))
         have PL_72 := hd (PL.srl PL_71.out LT5.out R_A_69_71.out.2 (rwp ybe ybv ybd))
         have PR_72 := hd (PL.srr PR_71.out LT5.out R_A_69_71.out.2 (rwp ybe ybv ybd))
         have R_A_72 := hd (R_A_71.out.other NE_A_A_69.out (rwp ybe ybv ybd))
         have R_B_72 := hd (R_B_71.out.other NE_B_A_69.out (rwp ybe ybv ybd))
         have R_A_69_72 := hd (R_A_69_71.out.same ⟨ybe, ybv, ybd⟩)
         have R_A_71_72 := hd (R_A_71_71.out.other (Ne.symm NE_A_69_A_71.out) (rwp ybe ybv ybd))
         refine hK.out _ _ TW_72.out (fun _ => ?_)
         clear hK K
         refine wpAnyH_ready (rs := [9]) (by kernel_rfl) (by simp) (AllReadyH.cons rfl (fun K hK => ?_) AllReadyH.nil)
         rw [if_pos (by rfl)]
         refine wp_store_row 41 _ _ rfl _ #[.int .i64 yae, .string yav, .int .u64 (yad : Int)] rfl rfl _ _ R_A_71_72.out.1 (by kernel_rfl) rfl ONEya.out ?_
         have TW_73 := hd (TW_72.out.sr HS5.out R_A_71_72.out.2 (rwp yae yav yad))
         have PL_73 := hd (PL.srl PL_72.out LT5.out R_A_71_72.out.2 (rwp yae yav yad))
         have PR_73 := hd (PL.srr PR_72.out LT5.out R_A_71_72.out.2 (rwp yae yav yad))
         have R_A_73 := hd (R_A_72.out.other NE_A_A_71.out (rwp yae yav yad))
         have R_B_73 := hd (R_B_72.out.other NE_B_A_71.out (rwp yae yav yad))
         have R_A_69_73 := hd (R_A_69_72.out.other NE_A_69_A_71.out (rwp yae yav yad))
         have R_A_71_73 := hd (R_A_71_72.out.same ⟨yae, yav, yad⟩)
         refine hK.out _ _ TW_73.out (fun _ => ?_)
         clear hK K
         refine wpAnyH_done (by kernel_rfl) ?_ _
         have fin_ : Fr ((u_71.setRow A_69 (rwp ybe ybv ybd)).setRow A_71 (rwp yae yav yad)) A_69 A_71 := HFr.out _ _ _ PL_73.out PR_73.out TW_73.out R_A_73.out R_B_73.out R_A_69_73.out R_A_71_73.out
         obtain ⟨Z, hZ⟩ : ∃ Z, Z = ((u_71.setRow A_69 #[.int .i64 ybe, .string ybv, .int .u64 (ybd : Int)]).setRow A_71 #[.int .i64 yae, .string yav, .int .u64 (yad : Int)]) := ⟨_, rfl⟩
         rw [← hZ] at ⊢
         change Fr _ _ _ at fin_
         rw [show ((u_71.setRow A_69 (rwp ybe ybv ybd)).setRow A_71 (rwp yae yav yad)) = Z from hZ.symm] at fin_
         clear hZ
         exact key Z A_69 A_71 fin_
       ·go_simp
        obtain ⟨u_74, hu_⟩ : ∃ x, x = u_69.alloc (.cells #[.int .i64 0, .string ⟨#[]⟩, .int .u64 0] 41) := ⟨_, rfl⟩
        obtain ⟨A_74, hA_⟩ : ∃ A, A = u_69.heap.size := ⟨_, rfl⟩
        have b_ := belA hu_
        have m_ := Mp.of_below (p := p) (b := b) b_
        have TW_74 := hd (TW_69.out.left m_)
        have PL_74 := hd (PL_69.out.below b_)
        have PR_74 := hd (PR_69.out.below b_)
        have R_A_74_74 : Hid (Row5 S5 u_74 A_74 ⟨0, ⟨#[]⟩, 0⟩) := hd (by rw [hu_, hA_]; exact Row5.new ⟨0, ⟨#[]⟩, 0⟩ (by have := TW_69.out.size; have := HS5.out; omega))
        have R_A_74 := hd (R_A_69.out.mp m_ LT5.out.1 LT5.out.2.1)
        have NE_A_A_74 : Hid (A ≠ A_74) := hd (by have := lt_of_rowR R_A_69.out.1; omega)
        have R_B_74 := hd (R_B_69.out.mp m_ LT5.out.1 LT5.out.2.1)
        have NE_B_A_74 : Hid (B ≠ A_74) := hd (by have := lt_of_rowR R_B_69.out.1; omega)
        have R_A_69_74 := hd (R_A_69_69.out.mp m_ LT5.out.1 LT5.out.2.1)
        have NE_A_69_A_74 : Hid (A_69 ≠ A_74) := hd (by have := lt_of_rowR R_A_69_69.out.1; omega)
        rw [← hu_, ← hA_]
        refine hK.out _ _ TW_74.out (fun _ => ?_)
        clear hK K hu_ hA_ b_ m_
        refine wpAnyH_ready (rs := [5]) (by kernel_rfl) (by simp) ?_
        refine AllReadyH.cons rfl (fun K hK => ?_) (AllReadyH.nil)
        ·go_simp
         refine (DA2.out u_74 PR_74.out).mono ?_; rintro e u_75 ⟨rfl, pl_, mp_⟩
         have PR_75 := hd pl_
         have PL_75 := hd (PL.othr PL_74.out mp_ DIS.out)
         have TW_75 := hd (TW_74.out.right mp_)
         have R_A_75 := hd (R_A_74.out.mp mp_ LT5.out.2.2.1 LT5.out.2.2.2)
         have R_B_75 := hd (R_B_74.out.mp mp_ LT5.out.2.2.1 LT5.out.2.2.2)
         have R_A_69_75 := hd (R_A_69_74.out.mp mp_ LT5.out.2.2.1 LT5.out.2.2.2)
         have R_A_74_75 := hd (R_A_74_74.out.mp mp_ LT5.out.2.2.1 LT5.out.2.2.2)
         clear pl_ mp_
         (try go_simp)
         refine hK.out _ _ TW_75.out (fun _ => ?_)
         clear hK K
         refine wpAnyH_ready (rs := [8]) (by kernel_rfl) (by simp) (AllReadyH.cons rfl (fun K hK => ?_) AllReadyH.nil)
         rw [if_pos (by rfl)]
         refine wp_store_row 41 _ _ rfl _ #[.int .i64 ybe, .string ybv, .int .u64 (ybd : Int)] rfl rfl _ _ R_A_69_75.out.1 (by kernel_rfl) rfl ONEyb.out ?_
         have TW_76 := hd (TW_75.out.sr HS5.out R_A_69_75.out.2 (rwp ybe ybv ybd))
         have PL_76 := hd (PL.srl PL_75.out LT5.out R_A_69_75.out.2 (rwp ybe ybv ybd))
         have PR_76 := hd (PL.srr PR_75.out LT5.out R_A_69_75.out.2 (rwp ybe ybv ybd))
         have R_A_76 := hd (R_A_75.out.other NE_A_A_69.out (rwp ybe ybv ybd))
         have R_B_76 := hd (R_B_75.out.other NE_B_A_69.out (rwp ybe ybv ybd))
         have R_A_69_76 := hd (R_A_69_75.out.same ⟨ybe, ybv, ybd⟩)
         have R_A_74_76 := hd (R_A_74_75.out.other (Ne.symm NE_A_69_A_74.out) (rwp ybe ybv ybd))
         refine hK.out _ _ TW_76.out (fun _ => ?_)
         clear hK K
         refine wpAnyH_ready (rs := [9]) (by kernel_rfl) (by simp) (AllReadyH.cons rfl (fun K hK => ?_) AllReadyH.nil)
         rw [if_pos (by rfl)]
         refine wp_store_row 41 _ _ rfl _ #[.int .i64 yae, .string yav, .int .u64 (yad : Int)] rfl rfl _ _ R_A_74_76.out.1 (by kernel_rfl) rfl ONEya.out ?_
         have TW_77 := hd (TW_76.out.sr HS5.out R_A_74_76.out.2 (rwp yae yav yad))
         have PL_77 := hd (PL.srl PL_76.out LT5.out R_A_74_76.out.2 (rwp yae yav yad))
         have PR_77 := hd (PL.srr PR_76.out LT5.out R_A_74_76.out.2 (rwp yae yav yad))
         have R_A_77 := hd (R_A_76.out.other NE_A_A_74.out (rwp yae yav yad))
         have R_B_77 := hd (R_B_76.out.other NE_B_A_74.out (rwp yae yav yad))
         have R_A_69_77 := hd (R_A_69_76.out.other NE_A_69_A_74.out (rwp yae yav yad))
         have R_A_74_77 := hd (R_A_74_76.out.same ⟨yae, yav, yad⟩)
         refine hK.out _ _ TW_77.out (fun _ => ?_)
         clear hK K
         refine wpAnyH_done (by kernel_rfl) ?_ _
         have fin_ : Fr ((u_75.setRow A_69 (rwp ybe ybv ybd)).setRow A_74 (rwp yae yav yad)) A_69 A_74 := HFr.out _ _ _ PL_77.out PR_77.out TW_77.out R_A_77.out R_B_77.out R_A_69_77.out R_A_74_77.out
         obtain ⟨Z, hZ⟩ : ∃ Z, Z = ((u_75.setRow A_69 #[.int .i64 ybe, .string ybv, .int .u64 (ybd : Int)]).setRow A_74 #[.int .i64 yae, .string yav, .int .u64 (yad : Int)]) := ⟨_, rfl⟩
         rw [← hZ] at ⊢
         change Fr _ _ _ at fin_
         rw [show ((u_75.setRow A_69 (rwp ybe ybv ybd)).setRow A_74 (rwp yae yav yad)) = Z from hZ.symm] at fin_
         clear hZ
         exact key Z A_69 A_74 fin_
      ·go_simp
       obtain ⟨u_78, hu_⟩ : ∃ x, x = u_59.alloc (.cells #[.int .i64 0, .string ⟨#[]⟩, .int .u64 0] 41) := ⟨_, rfl⟩
       obtain ⟨A_78, hA_⟩ : ∃ A, A = u_59.heap.size := ⟨_, rfl⟩
       have b_ := belA hu_
       have m_ := Mp.of_below (p := p) (b := b) b_
       have TW_78 := hd (TW_59.out.left m_)
       have PL_78 := hd (PL_59.out.below b_)
       have PR_78 := hd (PR_59.out.below b_)
       have R_A_78_78 : Hid (Row5 S5 u_78 A_78 ⟨0, ⟨#[]⟩, 0⟩) := hd (by rw [hu_, hA_]; exact Row5.new ⟨0, ⟨#[]⟩, 0⟩ (by have := TW_59.out.size; have := HS5.out; omega))
       have R_A_78 := hd (R_A_59.out.mp m_ LT5.out.1 LT5.out.2.1)
       have NE_A_A_78 : Hid (A ≠ A_78) := hd (by have := lt_of_rowR R_A_59.out.1; omega)
       have R_B_78 := hd (R_B_59.out.mp m_ LT5.out.1 LT5.out.2.1)
       have NE_B_A_78 : Hid (B ≠ A_78) := hd (by have := lt_of_rowR R_B_59.out.1; omega)
       rw [← hu_, ← hA_]
       refine hK.out _ _ TW_78.out (fun _ => ?_)
       clear hK K hu_ hA_ b_ m_
       refine wpAnyH_ready (rs := [5, 6]) (by kernel_rfl) (by simp) ?_
       refine AllReadyH.cons rfl (fun K hK => ?_) (AllReadyH.cons rfl (fun K hK => ?_) (AllReadyH.nil))
       ·go_simp
        refine (DA2.out u_78 PR_78.out).mono ?_; rintro e u_79 ⟨rfl, pl_, mp_⟩
        have PR_79 := hd pl_
        have PL_79 := hd (PL.othr PL_78.out mp_ DIS.out)
        have TW_79 := hd (TW_78.out.right mp_)
        have R_A_79 := hd (R_A_78.out.mp mp_ LT5.out.2.2.1 LT5.out.2.2.2)
        have R_B_79 := hd (R_B_78.out.mp mp_ LT5.out.2.2.1 LT5.out.2.2.2)
        have R_A_78_79 := hd (R_A_78_78.out.mp mp_ LT5.out.2.2.1 LT5.out.2.2.2)
        clear pl_ mp_
        (try go_simp)
        refine hK.out _ _ TW_79.out (fun _ => ?_)
        clear hK K
        refine wpAnyH_ready (rs := [6]) (by kernel_rfl) (by simp) ?_
        refine AllReadyH.cons rfl (fun K hK => ?_) (AllReadyH.nil)
        ·go_simp
         obtain ⟨u_80, hu_⟩ : ∃ x, x = u_79.alloc (.cells #[.int .i64 0, .string ⟨#[]⟩, .int .u64 0] 41) := ⟨_, rfl⟩
         obtain ⟨A_80, hA_⟩ : ∃ A, A = u_79.heap.size := ⟨_, rfl⟩
         have b_ := belA hu_
         have m_ := Mp.of_below (p := p) (b := b) b_
         have TW_80 := hd (TW_79.out.left m_)
         have PL_80 := hd (PL_79.out.below b_)
         have PR_80 := hd (PR_79.out.below b_)
         have R_A_80_80 : Hid (Row5 S5 u_80 A_80 ⟨0, ⟨#[]⟩, 0⟩) := hd (by rw [hu_, hA_]; exact Row5.new ⟨0, ⟨#[]⟩, 0⟩ (by have := TW_79.out.size; have := HS5.out; omega))
         have R_A_80 := hd (R_A_79.out.mp m_ LT5.out.1 LT5.out.2.1)
         have NE_A_A_80 : Hid (A ≠ A_80) := hd (by have := lt_of_rowR R_A_79.out.1; omega)
         have R_B_80 := hd (R_B_79.out.mp m_ LT5.out.1 LT5.out.2.1)
         have NE_B_A_80 : Hid (B ≠ A_80) := hd (by have := lt_of_rowR R_B_79.out.1; omega)
         have R_A_78_80 := hd (R_A_78_79.out.mp m_ LT5.out.1 LT5.out.2.1)
         have NE_A_78_A_80 : Hid (A_78 ≠ A_80) := hd (by have := lt_of_rowR R_A_78_79.out.1; omega)
         rw [← hu_, ← hA_]
         refine hK.out _ _ TW_80.out (fun _ => ?_)
         clear hK K hu_ hA_ b_ m_
         refine wpAnyH_ready (rs := [8]) (by kernel_rfl) (by simp) (AllReadyH.cons rfl (fun K hK => ?_) AllReadyH.nil)
         rw [if_pos (by rfl)]
         refine wp_store_row 41 _ _ rfl _ #[.int .i64 ybe, .string ybv, .int .u64 (ybd : Int)] rfl rfl _ _ R_A_80_80.out.1 (by kernel_rfl) rfl ONEyb.out ?_
         have TW_81 := hd (TW_80.out.sr HS5.out R_A_80_80.out.2 (rwp ybe ybv ybd))
         have PL_81 := hd (PL.srl PL_80.out LT5.out R_A_80_80.out.2 (rwp ybe ybv ybd))
         have PR_81 := hd (PL.srr PR_80.out LT5.out R_A_80_80.out.2 (rwp ybe ybv ybd))
         have R_A_81 := hd (R_A_80.out.other NE_A_A_80.out (rwp ybe ybv ybd))
         have R_B_81 := hd (R_B_80.out.other NE_B_A_80.out (rwp ybe ybv ybd))
         have R_A_78_81 := hd (R_A_78_80.out.other NE_A_78_A_80.out (rwp ybe ybv ybd))
         have R_A_80_81 := hd (R_A_80_80.out.same ⟨ybe, ybv, ybd⟩)
         refine hK.out _ _ TW_81.out (fun _ => ?_)
         clear hK K
         refine wpAnyH_ready (rs := [9]) (by kernel_rfl) (by simp) (AllReadyH.cons rfl (fun K hK => ?_) AllReadyH.nil)
         rw [if_pos (by rfl)]
         refine wp_store_row 41 _ _ rfl _ #[.int .i64 yae, .string yav, .int .u64 (yad : Int)] rfl rfl _ _ R_A_78_81.out.1 (by kernel_rfl) rfl ONEya.out ?_
         have TW_82 := hd (TW_81.out.sr HS5.out R_A_78_81.out.2 (rwp yae yav yad))
         have PL_82 := hd (PL.srl PL_81.out LT5.out R_A_78_81.out.2 (rwp yae yav yad))
         have PR_82 := hd (PL.srr PR_81.out LT5.out R_A_78_81.out.2 (rwp yae yav yad))
         have R_A_82 := hd (R_A_81.out.other NE_A_A_78.out (rwp yae yav yad))
         have R_B_82 := hd (R_B_81.out.other NE_B_A_78.out (rwp yae yav yad))
         have R_A_78_82 := hd (R_A_78_81.out.same ⟨yae, yav, yad⟩)
         have R_A_80_82 := hd (R_A_80_81.out.other (Ne.symm NE_A_78_A_80.out) (rwp yae yav yad))
         refine hK.out _ _ TW_82.out (fun _ => ?_)
         clear hK K
         refine wpAnyH_done (by kernel_rfl) ?_ _
         have fin_ : Fr ((u_80.setRow A_80 (rwp ybe ybv ybd)).setRow A_78 (rwp yae yav yad)) A_80 A_78 := HFr.out _ _ _ PL_82.out PR_82.out TW_82.out R_A_82.out R_B_82.out R_A_80_82.out R_A_78_82.out
         obtain ⟨Z, hZ⟩ : ∃ Z, Z = ((u_80.setRow A_80 #[.int .i64 ybe, .string ybv, .int .u64 (ybd : Int)]).setRow A_78 #[.int .i64 yae, .string yav, .int .u64 (yad : Int)]) := ⟨_, rfl⟩
         rw [← hZ] at ⊢
         change Fr _ _ _ at fin_
         rw [show ((u_80.setRow A_80 (rwp ybe ybv ybd)).setRow A_78 (rwp yae yav yad)) = Z from hZ.symm] at fin_
         clear hZ
         exact key Z A_80 A_78 fin_
       ·go_simp
        obtain ⟨u_83, hu_⟩ : ∃ x, x = u_78.alloc (.cells #[.int .i64 0, .string ⟨#[]⟩, .int .u64 0] 41) := ⟨_, rfl⟩
        obtain ⟨A_83, hA_⟩ : ∃ A, A = u_78.heap.size := ⟨_, rfl⟩
        have b_ := belA hu_
        have m_ := Mp.of_below (p := p) (b := b) b_
        have TW_83 := hd (TW_78.out.left m_)
        have PL_83 := hd (PL_78.out.below b_)
        have PR_83 := hd (PR_78.out.below b_)
        have R_A_83_83 : Hid (Row5 S5 u_83 A_83 ⟨0, ⟨#[]⟩, 0⟩) := hd (by rw [hu_, hA_]; exact Row5.new ⟨0, ⟨#[]⟩, 0⟩ (by have := TW_78.out.size; have := HS5.out; omega))
        have R_A_83 := hd (R_A_78.out.mp m_ LT5.out.1 LT5.out.2.1)
        have NE_A_A_83 : Hid (A ≠ A_83) := hd (by have := lt_of_rowR R_A_78.out.1; omega)
        have R_B_83 := hd (R_B_78.out.mp m_ LT5.out.1 LT5.out.2.1)
        have NE_B_A_83 : Hid (B ≠ A_83) := hd (by have := lt_of_rowR R_B_78.out.1; omega)
        have R_A_78_83 := hd (R_A_78_78.out.mp m_ LT5.out.1 LT5.out.2.1)
        have NE_A_78_A_83 : Hid (A_78 ≠ A_83) := hd (by have := lt_of_rowR R_A_78_78.out.1; omega)
        rw [← hu_, ← hA_]
        refine hK.out _ _ TW_83.out (fun _ => ?_)
        clear hK K hu_ hA_ b_ m_
        refine wpAnyH_ready (rs := [5]) (by kernel_rfl) (by simp) ?_
        refine AllReadyH.cons rfl (fun K hK => ?_) (AllReadyH.nil)
        ·go_simp
         refine (DA2.out u_83 PR_83.out).mono ?_; rintro e u_84 ⟨rfl, pl_, mp_⟩
         have PR_84 := hd pl_
         have PL_84 := hd (PL.othr PL_83.out mp_ DIS.out)
         have TW_84 := hd (TW_83.out.right mp_)
         have R_A_84 := hd (R_A_83.out.mp mp_ LT5.out.2.2.1 LT5.out.2.2.2)
         have R_B_84 := hd (R_B_83.out.mp mp_ LT5.out.2.2.1 LT5.out.2.2.2)
         have R_A_78_84 := hd (R_A_78_83.out.mp mp_ LT5.out.2.2.1 LT5.out.2.2.2)
         have R_A_83_84 := hd (R_A_83_83.out.mp mp_ LT5.out.2.2.1 LT5.out.2.2.2)
         clear pl_ mp_
         (try go_simp)
         refine hK.out _ _ TW_84.out (fun _ => ?_)
         clear hK K
         refine wpAnyH_ready (rs := [8]) (by kernel_rfl) (by simp) (AllReadyH.cons rfl (fun K hK => ?_) AllReadyH.nil)
         rw [if_pos (by rfl)]
         refine wp_store_row 41 _ _ rfl _ #[.int .i64 ybe, .string ybv, .int .u64 (ybd : Int)] rfl rfl _ _ R_A_83_84.out.1 (by kernel_rfl) rfl ONEyb.out ?_
         have TW_85 := hd (TW_84.out.sr HS5.out R_A_83_84.out.2 (rwp ybe ybv ybd))
         have PL_85 := hd (PL.srl PL_84.out LT5.out R_A_83_84.out.2 (rwp ybe ybv ybd))
         have PR_85 := hd (PL.srr PR_84.out LT5.out R_A_83_84.out.2 (rwp ybe ybv ybd))
         have R_A_85 := hd (R_A_84.out.other NE_A_A_83.out (rwp ybe ybv ybd))
         have R_B_85 := hd (R_B_84.out.other NE_B_A_83.out (rwp ybe ybv ybd))
         have R_A_78_85 := hd (R_A_78_84.out.other NE_A_78_A_83.out (rwp ybe ybv ybd))
         have R_A_83_85 := hd (R_A_83_84.out.same ⟨ybe, ybv, ybd⟩)
         refine hK.out _ _ TW_85.out (fun _ => ?_)
         clear hK K
         refine wpAnyH_ready (rs := [9]) (by kernel_rfl) (by simp) (AllReadyH.cons rfl (fun K hK => ?_) AllReadyH.nil)
         rw [if_pos (by rfl)]
         refine wp_store_row 41 _ _ rfl _ #[.int .i64 yae, .string yav, .int .u64 (yad : Int)] rfl rfl _ _ R_A_78_85.out.1 (by kernel_rfl) rfl ONEya.out ?_
         have TW_86 := hd (TW_85.out.sr HS5.out R_A_78_85.out.2 (rwp yae yav yad))
         have PL_86 := hd (PL.srl PL_85.out LT5.out R_A_78_85.out.2 (rwp yae yav yad))
         have PR_86 := hd (PL.srr PR_85.out LT5.out R_A_78_85.out.2 (rwp yae yav yad))
         have R_A_86 := hd (R_A_85.out.other NE_A_A_78.out (rwp yae yav yad))
         have R_B_86 := hd (R_B_85.out.other NE_B_A_78.out (rwp yae yav yad))
         have R_A_78_86 := hd (R_A_78_85.out.same ⟨yae, yav, yad⟩)
         have R_A_83_86 := hd (R_A_83_85.out.other (Ne.symm NE_A_78_A_83.out) (rwp yae yav yad))
         refine hK.out _ _ TW_86.out (fun _ => ?_)
         clear hK K
         refine wpAnyH_done (by kernel_rfl) ?_ _
         have fin_ : Fr ((u_84.setRow A_83 (rwp ybe ybv ybd)).setRow A_78 (rwp yae yav yad)) A_83 A_78 := HFr.out _ _ _ PL_86.out PR_86.out TW_86.out R_A_86.out R_B_86.out R_A_83_86.out R_A_78_86.out
         obtain ⟨Z, hZ⟩ : ∃ Z, Z = ((u_84.setRow A_83 #[.int .i64 ybe, .string ybv, .int .u64 (ybd : Int)]).setRow A_78 #[.int .i64 yae, .string yav, .int .u64 (yad : Int)]) := ⟨_, rfl⟩
         rw [← hZ] at ⊢
         change Fr _ _ _ at fin_
         rw [show ((u_84.setRow A_83 (rwp ybe ybv ybd)).setRow A_78 (rwp yae yav yad)) = Z from hZ.symm] at fin_
         clear hZ
         exact key Z A_83 A_78 fin_
     ·go_simp
      obtain ⟨u_87, hu_⟩ : ∃ x, x = Wd.alloc (.cells #[.int .i64 0, .string ⟨#[]⟩, .int .u64 0] 41) := ⟨_, rfl⟩
      obtain ⟨A_87, hA_⟩ : ∃ A, A = Wd.heap.size := ⟨_, rfl⟩
      have b_ := belA hu_
      have m_ := Mp.of_below (p := p) (b := b) b_
      have TW_87 := hd (TWd.out.left m_)
      have PL_87 := hd (PLd.out.below b_)
      have PR_87 := hd (PRd.out.below b_)
      have R_A_87_87 : Hid (Row5 S5 u_87 A_87 ⟨0, ⟨#[]⟩, 0⟩) := hd (by rw [hu_, hA_]; exact Row5.new ⟨0, ⟨#[]⟩, 0⟩ (by have := TWd.out.size; have := HS5.out; omega))
      have R_A_87 := hd (RAd.out.mp m_ LT5.out.1 LT5.out.2.1)
      have NE_A_A_87 : Hid (A ≠ A_87) := hd (by have := lt_of_rowR RAd.out.1; omega)
      have R_B_87 := hd (RBd.out.mp m_ LT5.out.1 LT5.out.2.1)
      have NE_B_A_87 : Hid (B ≠ A_87) := hd (by have := lt_of_rowR RBd.out.1; omega)
      rw [← hu_, ← hA_]
      refine hK.out _ _ TW_87.out (fun _ => ?_)
      clear hK K hu_ hA_ b_ m_
      refine wpAnyH_ready (rs := [2, 7]) (by kernel_rfl) (by simp) ?_
      refine AllReadyH.cons rfl (fun K hK => ?_) (AllReadyH.cons rfl (fun K hK => ?_) (AllReadyH.nil))
      ·go_simp
       refine (DB2.out u_87 PR_87.out).mono ?_; rintro e u_88 ⟨rfl, pl_, mp_⟩
       have PR_88 := hd pl_
       have PL_88 := hd (PL.othr PL_87.out mp_ DIS.out)
       have TW_88 := hd (TW_87.out.right mp_)
       have R_A_88 := hd (R_A_87.out.mp mp_ LT5.out.2.2.1 LT5.out.2.2.2)
       have R_B_88 := hd (R_B_87.out.mp mp_ LT5.out.2.2.1 LT5.out.2.2.2)
       have R_A_87_88 := hd (R_A_87_87.out.mp mp_ LT5.out.2.2.1 LT5.out.2.2.2)
       clear pl_ mp_
       (try go_simp)
       refine hK.out _ _ TW_88.out (fun _ => ?_)
       clear hK K
       refine wpAnyH_ready (rs := [5, 7]) (by kernel_rfl) (by simp) ?_
       refine AllReadyH.cons rfl (fun K hK => ?_) (AllReadyH.cons rfl (fun K hK => ?_) (AllReadyH.nil))
       ·go_simp
        refine (DA2.out u_88 PR_88.out).mono ?_; rintro e u_89 ⟨rfl, pl_, mp_⟩
        have PR_89 := hd pl_
        have PL_89 := hd (PL.othr PL_88.out mp_ DIS.out)
        have TW_89 := hd (TW_88.out.right mp_)
        have R_A_89 := hd (R_A_88.out.mp mp_ LT5.out.2.2.1 LT5.out.2.2.2)
        have R_B_89 := hd (R_B_88.out.mp mp_ LT5.out.2.2.1 LT5.out.2.2.2)
        have R_A_87_89 := hd (R_A_87_88.out.mp mp_ LT5.out.2.2.1 LT5.out.2.2.2)
        clear pl_ mp_
        (try go_simp)
        refine hK.out _ _ TW_89.out (fun _ => ?_)
        clear hK K
        refine wpAnyH_ready (rs := [7]) (by kernel_rfl) (by simp) ?_
        refine AllReadyH.cons rfl (fun K hK => ?_) (AllReadyH.nil)
        ·go_simp
         obtain ⟨u_90, hu_⟩ : ∃ x, x = u_89.alloc (.cells #[.int .i64 0, .string ⟨#[]⟩, .int .u64 0] 41) := ⟨_, rfl⟩
         obtain ⟨A_90, hA_⟩ : ∃ A, A = u_89.heap.size := ⟨_, rfl⟩
         have b_ := belA hu_
         have m_ := Mp.of_below (p := p) (b := b) b_
         have TW_90 := hd (TW_89.out.left m_)
         have PL_90 := hd (PL_89.out.below b_)
         have PR_90 := hd (PR_89.out.below b_)
         have R_A_90_90 : Hid (Row5 S5 u_90 A_90 ⟨0, ⟨#[]⟩, 0⟩) := hd (by rw [hu_, hA_]; exact Row5.new ⟨0, ⟨#[]⟩, 0⟩ (by have := TW_89.out.size; have := HS5.out; omega))
         have R_A_90 := hd (R_A_89.out.mp m_ LT5.out.1 LT5.out.2.1)
         have NE_A_A_90 : Hid (A ≠ A_90) := hd (by have := lt_of_rowR R_A_89.out.1; omega)
         have R_B_90 := hd (R_B_89.out.mp m_ LT5.out.1 LT5.out.2.1)
         have NE_B_A_90 : Hid (B ≠ A_90) := hd (by have := lt_of_rowR R_B_89.out.1; omega)
         have R_A_87_90 := hd (R_A_87_89.out.mp m_ LT5.out.1 LT5.out.2.1)
         have NE_A_87_A_90 : Hid (A_87 ≠ A_90) := hd (by have := lt_of_rowR R_A_87_89.out.1; omega)
         rw [← hu_, ← hA_]
         refine hK.out _ _ TW_90.out (fun _ => ?_)
         clear hK K hu_ hA_ b_ m_
         refine wpAnyH_ready (rs := [8]) (by kernel_rfl) (by simp) (AllReadyH.cons rfl (fun K hK => ?_) AllReadyH.nil)
         rw [if_pos (by rfl)]
         refine wp_store_row 41 _ _ rfl _ #[.int .i64 ybe, .string ybv, .int .u64 (ybd : Int)] rfl rfl _ _ R_A_87_90.out.1 (by kernel_rfl) rfl ONEyb.out ?_
         have TW_91 := hd (TW_90.out.sr HS5.out R_A_87_90.out.2 (rwp ybe ybv ybd))
         have PL_91 := hd (PL.srl PL_90.out LT5.out R_A_87_90.out.2 (rwp ybe ybv ybd))
         have PR_91 := hd (PL.srr PR_90.out LT5.out R_A_87_90.out.2 (rwp ybe ybv ybd))
         have R_A_91 := hd (R_A_90.out.other NE_A_A_87.out (rwp ybe ybv ybd))
         have R_B_91 := hd (R_B_90.out.other NE_B_A_87.out (rwp ybe ybv ybd))
         have R_A_87_91 := hd (R_A_87_90.out.same ⟨ybe, ybv, ybd⟩)
         have R_A_90_91 := hd (R_A_90_90.out.other (Ne.symm NE_A_87_A_90.out) (rwp ybe ybv ybd))
         refine hK.out _ _ TW_91.out (fun _ => ?_)
         clear hK K
         refine wpAnyH_ready (rs := [9]) (by kernel_rfl) (by simp) (AllReadyH.cons rfl (fun K hK => ?_) AllReadyH.nil)
         rw [if_pos (by rfl)]
         refine wp_store_row 41 _ _ rfl _ #[.int .i64 yae, .string yav, .int .u64 (yad : Int)] rfl rfl _ _ R_A_90_91.out.1 (by kernel_rfl) rfl ONEya.out ?_
         have TW_92 := hd (TW_91.out.sr HS5.out R_A_90_91.out.2 (rwp yae yav yad))
         have PL_92 := hd (PL.srl PL_91.out LT5.out R_A_90_91.out.2 (rwp yae yav yad))
         have PR_92 := hd (PL.srr PR_91.out LT5.out R_A_90_91.out.2 (rwp yae yav yad))
         have R_A_92 := hd (R_A_91.out.other NE_A_A_90.out (rwp yae yav yad))
         have R_B_92 := hd (R_B_91.out.other NE_B_A_90.out (rwp yae yav yad))
         have R_A_87_92 := hd (R_A_87_91.out.other NE_A_87_A_90.out (rwp yae yav yad))
         have R_A_90_92 := hd (R_A_90_91.out.same ⟨yae, yav, yad⟩)
         refine hK.out _ _ TW_92.out (fun _ => ?_)
         clear hK K
         refine wpAnyH_done (by kernel_rfl) ?_ _
         have fin_ : Fr ((u_90.setRow A_87 (rwp ybe ybv ybd)).setRow A_90 (rwp yae yav yad)) A_87 A_90 := HFr.out _ _ _ PL_92.out PR_92.out TW_92.out R_A_92.out R_B_92.out R_A_87_92.out R_A_90_92.out
         obtain ⟨Z, hZ⟩ : ∃ Z, Z = ((u_90.setRow A_87 #[.int .i64 ybe, .string ybv, .int .u64 (ybd : Int)]).setRow A_90 #[.int .i64 yae, .string yav, .int .u64 (yad : Int)]) := ⟨_, rfl⟩
         rw [← hZ] at ⊢
         change Fr _ _ _ at fin_
         rw [show ((u_90.setRow A_87 (rwp ybe ybv ybd)).setRow A_90 (rwp yae yav yad)) = Z from hZ.symm] at fin_
         clear hZ
         exact key Z A_87 A_90 fin_
       ·go_simp
        obtain ⟨u_93, hu_⟩ : ∃ x, x = u_88.alloc (.cells #[.int .i64 0, .string ⟨#[]⟩, .int .u64 0] 41) := ⟨_, rfl⟩
        obtain ⟨A_93, hA_⟩ : ∃ A, A = u_88.heap.size := ⟨_, rfl⟩
        have b_ := belA hu_
        have m_ := Mp.of_below (p := p) (b := b) b_
        have TW_93 := hd (TW_88.out.left m_)
        have PL_93 := hd (PL_88.out.below b_)
        have PR_93 := hd (PR_88.out.below b_)
        have R_A_93_93 : Hid (Row5 S5 u_93 A_93 ⟨0, ⟨#[]⟩, 0⟩) := hd (by rw [hu_, hA_]; exact Row5.new ⟨0, ⟨#[]⟩, 0⟩ (by have := TW_88.out.size; have := HS5.out; omega))
        have R_A_93 := hd (R_A_88.out.mp m_ LT5.out.1 LT5.out.2.1)
        have NE_A_A_93 : Hid (A ≠ A_93) := hd (by have := lt_of_rowR R_A_88.out.1; omega)
        have R_B_93 := hd (R_B_88.out.mp m_ LT5.out.1 LT5.out.2.1)
        have NE_B_A_93 : Hid (B ≠ A_93) := hd (by have := lt_of_rowR R_B_88.out.1; omega)
        have R_A_87_93 := hd (R_A_87_88.out.mp m_ LT5.out.1 LT5.out.2.1)
        have NE_A_87_A_93 : Hid (A_87 ≠ A_93) := hd (by have := lt_of_rowR R_A_87_88.out.1; omega)
        rw [← hu_, ← hA_]
        refine hK.out _ _ TW_93.out (fun _ => ?_)
        clear hK K hu_ hA_ b_ m_
        refine wpAnyH_ready (rs := [5]) (by kernel_rfl) (by simp) ?_
        refine AllReadyH.cons rfl (fun K hK => ?_) (AllReadyH.nil)
        ·go_simp
         refine (DA2.out u_93 PR_93.out).mono ?_; rintro e u_94 ⟨rfl, pl_, mp_⟩
         have PR_94 := hd pl_
         have PL_94 := hd (PL.othr PL_93.out mp_ DIS.out)
         have TW_94 := hd (TW_93.out.right mp_)
         have R_A_94 := hd (R_A_93.out.mp mp_ LT5.out.2.2.1 LT5.out.2.2.2)
         have R_B_94 := hd (R_B_93.out.mp mp_ LT5.out.2.2.1 LT5.out.2.2.2)
         have R_A_87_94 := hd (R_A_87_93.out.mp mp_ LT5.out.2.2.1 LT5.out.2.2.2)
         have R_A_93_94 := hd (R_A_93_93.out.mp mp_ LT5.out.2.2.1 LT5.out.2.2.2)
         clear pl_ mp_
         (try go_simp)
         refine hK.out _ _ TW_94.out (fun _ => ?_)
         clear hK K
         refine wpAnyH_ready (rs := [8]) (by kernel_rfl) (by simp) (AllReadyH.cons rfl (fun K hK => ?_) AllReadyH.nil)
         rw [if_pos (by rfl)]
         refine wp_store_row 41 _ _ rfl _ #[.int .i64 ybe, .string ybv, .int .u64 (ybd : Int)] rfl rfl _ _ R_A_87_94.out.1 (by kernel_rfl) rfl ONEyb.out ?_
         have TW_95 := hd (TW_94.out.sr HS5.out R_A_87_94.out.2 (rwp ybe ybv ybd))
         have PL_95 := hd (PL.srl PL_94.out LT5.out R_A_87_94.out.2 (rwp ybe ybv ybd))
         have PR_95 := hd (PL.srr PR_94.out LT5.out R_A_87_94.out.2 (rwp ybe ybv ybd))
         have R_A_95 := hd (R_A_94.out.other NE_A_A_87.out (rwp ybe ybv ybd))
         have R_B_95 := hd (R_B_94.out.other NE_B_A_87.out (rwp ybe ybv ybd))
         have R_A_87_95 := hd (R_A_87_94.out.same ⟨ybe, ybv, ybd⟩)
         have R_A_93_95 := hd (R_A_93_94.out.other (Ne.symm NE_A_87_A_93.out) (rwp ybe ybv ybd))
         refine hK.out _ _ TW_95.out (fun _ => ?_)
         clear hK K
         refine wpAnyH_ready (rs := [9]) (by kernel_rfl) (by simp) (AllReadyH.cons rfl (fun K hK => ?_) AllReadyH.nil)
         rw [if_pos (by rfl)]
         refine wp_store_row 41 _ _ rfl _ #[.int .i64 yae, .string yav, .int .u64 (yad : Int)] rfl rfl _ _ R_A_93_95.out.1 (by kernel_rfl) rfl ONEya.out ?_
         have TW_96 := hd (TW_95.out.sr HS5.out R_A_93_95.out.2 (rwp yae yav yad))
         have PL_96 := hd (PL.srl PL_95.out LT5.out R_A_93_95.out.2 (rwp yae yav yad))
         have PR_96 := hd (PL.srr PR_95.out LT5.out R_A_93_95.out.2 (rwp yae yav yad))
         have R_A_96 := hd (R_A_95.out.other NE_A_A_93.out (rwp yae yav yad))
         have R_B_96 := hd (R_B_95.out.other NE_B_A_93.out (rwp yae yav yad))
         have R_A_87_96 := hd (R_A_87_95.out.other NE_A_87_A_93.out (rwp yae yav yad))
         have R_A_93_96 := hd (R_A_93_95.out.same ⟨yae, yav, yad⟩)
         refine hK.out _ _ TW_96.out (fun _ => ?_)
         clear hK K
         refine wpAnyH_done (by kernel_rfl) ?_ _
         have fin_ : Fr ((u_94.setRow A_87 (rwp ybe ybv ybd)).setRow A_93 (rwp yae yav yad)) A_87 A_93 := HFr.out _ _ _ PL_96.out PR_96.out TW_96.out R_A_96.out R_B_96.out R_A_87_96.out R_A_93_96.out
         obtain ⟨Z, hZ⟩ : ∃ Z, Z = ((u_94.setRow A_87 #[.int .i64 ybe, .string ybv, .int .u64 (ybd : Int)]).setRow A_93 #[.int .i64 yae, .string yav, .int .u64 (yad : Int)]) := ⟨_, rfl⟩
         rw [← hZ] at ⊢
         change Fr _ _ _ at fin_
         rw [show ((u_94.setRow A_87 (rwp ybe ybv ybd)).setRow A_93 (rwp yae yav yad)) = Z from hZ.symm] at fin_
         clear hZ
         exact key Z A_87 A_93 fin_
      ·go_simp
       obtain ⟨u_97, hu_⟩ : ∃ x, x = u_87.alloc (.cells #[.int .i64 0, .string ⟨#[]⟩, .int .u64 0] 41) := ⟨_, rfl⟩
       obtain ⟨A_97, hA_⟩ : ∃ A, A = u_87.heap.size := ⟨_, rfl⟩
       have b_ := belA hu_
       have m_ := Mp.of_below (p := p) (b := b) b_
       have TW_97 := hd (TW_87.out.left m_)
       have PL_97 := hd (PL_87.out.below b_)
       have PR_97 := hd (PR_87.out.below b_)
       have R_A_97_97 : Hid (Row5 S5 u_97 A_97 ⟨0, ⟨#[]⟩, 0⟩) := hd (by rw [hu_, hA_]; exact Row5.new ⟨0, ⟨#[]⟩, 0⟩ (by have := TW_87.out.size; have := HS5.out; omega))
       have R_A_97 := hd (R_A_87.out.mp m_ LT5.out.1 LT5.out.2.1)
       have NE_A_A_97 : Hid (A ≠ A_97) := hd (by have := lt_of_rowR R_A_87.out.1; omega)
       have R_B_97 := hd (R_B_87.out.mp m_ LT5.out.1 LT5.out.2.1)
       have NE_B_A_97 : Hid (B ≠ A_97) := hd (by have := lt_of_rowR R_B_87.out.1; omega)
       have R_A_87_97 := hd (R_A_87_87.out.mp m_ LT5.out.1 LT5.out.2.1)
       have NE_A_87_A_97 : Hid (A_87 ≠ A_97) := hd (by have := lt_of_rowR R_A_87_87.out.1; omega)
       rw [← hu_, ← hA_]
       refine hK.out _ _ TW_97.out (fun _ => ?_)
       clear hK K hu_ hA_ b_ m_
       refine wpAnyH_ready (rs := [2]) (by kernel_rfl) (by simp) ?_
       refine AllReadyH.cons rfl (fun K hK => ?_) (AllReadyH.nil)
       ·go_simp
        refine (DB2.out u_97 PR_97.out).mono ?_; rintro e u_98 ⟨rfl, pl_, mp_⟩
        have PR_98 := hd pl_
        have PL_98 := hd (PL.othr PL_97.out mp_ DIS.out)
        have TW_98 := hd (TW_97.out.right mp_)
        have R_A_98 := hd (R_A_97.out.mp mp_ LT5.out.2.2.1 LT5.out.2.2.2)
        have R_B_98 := hd (R_B_97.out.mp mp_ LT5.out.2.2.1 LT5.out.2.2.2)
        have R_A_87_98 := hd (R_A_87_97.out.mp mp_ LT5.out.2.2.1 LT5.out.2.2.2)
        have R_A_97_98 := hd (R_A_97_97.out.mp mp_ LT5.out.2.2.1 LT5.out.2.2.2)
        clear pl_ mp_
        (try go_simp)
        refine hK.out _ _ TW_98.out (fun _ => ?_)
        clear hK K
        refine wpAnyH_ready (rs := [5]) (by kernel_rfl) (by simp) ?_
        refine AllReadyH.cons rfl (fun K hK => ?_) (AllReadyH.nil)
        ·go_simp
         refine (DA2.out u_98 PR_98.out).mono ?_; rintro e u_99 ⟨rfl, pl_, mp_⟩
         have PR_99 := hd pl_
         have PL_99 := hd (PL.othr PL_98.out mp_ DIS.out)
         have TW_99 := hd (TW_98.out.right mp_)
         have R_A_99 := hd (R_A_98.out.mp mp_ LT5.out.2.2.1 LT5.out.2.2.2)
         have R_B_99 := hd (R_B_98.out.mp mp_ LT5.out.2.2.1 LT5.out.2.2.2)
         have R_A_87_99 := hd (R_A_87_98.out.mp mp_ LT5.out.2.2.1 LT5.out.2.2.2)
         have R_A_97_99 := hd (R_A_97_98.out.mp mp_ LT5.out.2.2.1 LT5.out.2.2.2)
         clear pl_ mp_
         (try go_simp)
         refine hK.out _ _ TW_99.out (fun _ => ?_)
         clear hK K
         refine wpAnyH_ready (rs := [8]) (by kernel_rfl) (by simp) (AllReadyH.cons rfl (fun K hK => ?_) AllReadyH.nil)
         rw [if_pos (by rfl)]
         refine wp_store_row 41 _ _ rfl _ #[.int .i64 ybe, .string ybv, .int .u64 (ybd : Int)] rfl rfl _ _ R_A_87_99.out.1 (by kernel_rfl) rfl ONEyb.out ?_
         have TW_100 := hd (TW_99.out.sr HS5.out R_A_87_99.out.2 (rwp ybe ybv ybd))
         have PL_100 := hd (PL.srl PL_99.out LT5.out R_A_87_99.out.2 (rwp ybe ybv ybd))
         have PR_100 := hd (PL.srr PR_99.out LT5.out R_A_87_99.out.2 (rwp ybe ybv ybd))
         have R_A_100 := hd (R_A_99.out.other NE_A_A_87.out (rwp ybe ybv ybd))
         have R_B_100 := hd (R_B_99.out.other NE_B_A_87.out (rwp ybe ybv ybd))
         have R_A_87_100 := hd (R_A_87_99.out.same ⟨ybe, ybv, ybd⟩)
         have R_A_97_100 := hd (R_A_97_99.out.other (Ne.symm NE_A_87_A_97.out) (rwp ybe ybv ybd))
         refine hK.out _ _ TW_100.out (fun _ => ?_)
         clear hK K
         refine wpAnyH_ready (rs := [9]) (by kernel_rfl) (by simp) (AllReadyH.cons rfl (fun K hK => ?_) AllReadyH.nil)
         rw [if_pos (by rfl)]
         refine wp_store_row 41 _ _ rfl _ #[.int .i64 yae, .string yav, .int .u64 (yad : Int)] rfl rfl _ _ R_A_97_100.out.1 (by kernel_rfl) rfl ONEya.out ?_
         have TW_101 := hd (TW_100.out.sr HS5.out R_A_97_100.out.2 (rwp yae yav yad))
         have PL_101 := hd (PL.srl PL_100.out LT5.out R_A_97_100.out.2 (rwp yae yav yad))
         have PR_101 := hd (PL.srr PR_100.out LT5.out R_A_97_100.out.2 (rwp yae yav yad))
         have R_A_101 := hd (R_A_100.out.other NE_A_A_97.out (rwp yae yav yad))
         have R_B_101 := hd (R_B_100.out.other NE_B_A_97.out (rwp yae yav yad))
         have R_A_87_101 := hd (R_A_87_100.out.other NE_A_87_A_97.out (rwp yae yav yad))
         have R_A_97_101 := hd (R_A_97_100.out.same ⟨yae, yav, yad⟩)
         refine hK.out _ _ TW_101.out (fun _ => ?_)
         clear hK K
         refine wpAnyH_done (by kernel_rfl) ?_ _
         have fin_ : Fr ((u_99.setRow A_87 (rwp ybe ybv ybd)).setRow A_97 (rwp yae yav yad)) A_87 A_97 := HFr.out _ _ _ PL_101.out PR_101.out TW_101.out R_A_101.out R_B_101.out R_A_87_101.out R_A_97_101.out
         obtain ⟨Z, hZ⟩ : ∃ Z, Z = ((u_99.setRow A_87 #[.int .i64 ybe, .string ybv, .int .u64 (ybd : Int)]).setRow A_97 #[.int .i64 yae, .string yav, .int .u64 (yad : Int)]) := ⟨_, rfl⟩
         rw [← hZ] at ⊢
         change Fr _ _ _ at fin_
         rw [show ((u_99.setRow A_87 (rwp ybe ybv ybd)).setRow A_97 (rwp yae yav yad)) = Z from hZ.symm] at fin_
         clear hZ
         exact key Z A_87 A_97 fin_
     ·go_simp
      obtain ⟨u_102, hu_⟩ : ∃ x, x = Wd.alloc (.cells #[.int .i64 0, .string ⟨#[]⟩, .int .u64 0] 41) := ⟨_, rfl⟩
      obtain ⟨A_102, hA_⟩ : ∃ A, A = Wd.heap.size := ⟨_, rfl⟩
      have b_ := belA hu_
      have m_ := Mp.of_below (p := p) (b := b) b_
      have TW_102 := hd (TWd.out.left m_)
      have PL_102 := hd (PLd.out.below b_)
      have PR_102 := hd (PRd.out.below b_)
      have R_A_102_102 : Hid (Row5 S5 u_102 A_102 ⟨0, ⟨#[]⟩, 0⟩) := hd (by rw [hu_, hA_]; exact Row5.new ⟨0, ⟨#[]⟩, 0⟩ (by have := TWd.out.size; have := HS5.out; omega))
      have R_A_102 := hd (RAd.out.mp m_ LT5.out.1 LT5.out.2.1)
      have NE_A_A_102 : Hid (A ≠ A_102) := hd (by have := lt_of_rowR RAd.out.1; omega)
      have R_B_102 := hd (RBd.out.mp m_ LT5.out.1 LT5.out.2.1)
      have NE_B_A_102 : Hid (B ≠ A_102) := hd (by have := lt_of_rowR RBd.out.1; omega)
      rw [← hu_, ← hA_]
      refine hK.out _ _ TW_102.out (fun _ => ?_)
      clear hK K hu_ hA_ b_ m_
      refine wpAnyH_ready (rs := [2, 6]) (by kernel_rfl) (by simp) ?_
      refine AllReadyH.cons rfl (fun K hK => ?_) (AllReadyH.cons rfl (fun K hK => ?_) (AllReadyH.nil))
      ·go_simp
       refine (DB2.out u_102 PR_102.out).mono ?_; rintro e u_103 ⟨rfl, pl_, mp_⟩
       have PR_103 := hd pl_
       have PL_103 := hd (PL.othr PL_102.out mp_ DIS.out)
       have TW_103 := hd (TW_102.out.right mp_)
       have R_A_103 := hd (R_A_102.out.mp mp_ LT5.out.2.2.1 LT5.out.2.2.2)
       have R_B_103 := hd (R_B_102.out.mp mp_ LT5.out.2.2.1 LT5.out.2.2.2)
       have R_A_102_103 := hd (R_A_102_102.out.mp mp_ LT5.out.2.2.1 LT5.out.2.2.2)
       clear pl_ mp_
       (try go_simp)
       refine hK.out _ _ TW_103.out (fun _ => ?_)
       clear hK K
       refine wpAnyH_ready (rs := [5, 6]) (by kernel_rfl) (by simp) ?_
       refine AllReadyH.cons rfl (fun K hK => ?_) (AllReadyH.cons rfl (fun K hK => ?_) (AllReadyH.nil))
       ·go_simp
        refine (DA2.out u_103 PR_103.out).mono ?_; rintro e u_104 ⟨rfl, pl_, mp_⟩
        have PR_104 := hd pl_
        have PL_104 := hd (PL.othr PL_103.out mp_ DIS.out)
        have TW_104 := hd (TW_103.out.right mp_)
        have R_A_104 := hd (R_A_103.out.mp mp_ LT5.out.2.2.1 LT5.out.2.2.2)
        have R_B_104 := hd (R_B_103.out.mp mp_ LT5.out.2.2.1 LT5.out.2.2.2)
        have R_A_102_104 := hd (R_A_102_103.out.mp mp_ LT5.out.2.2.1 LT5.out.2.2.2)
        clear pl_ mp_
        (try go_simp)
        refine hK.out _ _ TW_104.out (fun _ => ?_)
        clear hK K
        refine wpAnyH_ready (rs := [6]) (by kernel_rfl) (by simp) ?_
        refine AllReadyH.cons rfl (fun K hK => ?_) (AllReadyH.nil)
        ·go_simp
         obtain ⟨u_105, hu_⟩ : ∃ x, x = u_104.alloc (.cells #[.int .i64 0, .string ⟨#[]⟩, .int .u64 0] 41) := ⟨_, rfl⟩
         obtain ⟨A_105, hA_⟩ : ∃ A, A = u_104.heap.size := ⟨_, rfl⟩
         have b_ := belA hu_
         have m_ := Mp.of_below (p := p) (b := b) b_
         have TW_105 := hd (TW_104.out.left m_)
         have PL_105 := hd (PL_104.out.below b_)
         have PR_105 := hd (PR_104.out.below b_)
         have R_A_105_105 : Hid (Row5 S5 u_105 A_105 ⟨0, ⟨#[]⟩, 0⟩) := hd (by rw [hu_, hA_]; exact Row5.new ⟨0, ⟨#[]⟩, 0⟩ (by have := TW_104.out.size; have := HS5.out; omega))
         have R_A_105 := hd (R_A_104.out.mp m_ LT5.out.1 LT5.out.2.1)
         have NE_A_A_105 : Hid (A ≠ A_105) := hd (by have := lt_of_rowR R_A_104.out.1; omega)
         have R_B_105 := hd (R_B_104.out.mp m_ LT5.out.1 LT5.out.2.1)
         have NE_B_A_105 : Hid (B ≠ A_105) := hd (by have := lt_of_rowR R_B_104.out.1; omega)
         have R_A_102_105 := hd (R_A_102_104.out.mp m_ LT5.out.1 LT5.out.2.1)
         have NE_A_102_A_105 : Hid (A_102 ≠ A_105) := hd (by have := lt_of_rowR R_A_102_104.out.1; omega)
         rw [← hu_, ← hA_]
         refine hK.out _ _ TW_105.out (fun _ => ?_)
         clear hK K hu_ hA_ b_ m_
         refine wpAnyH_ready (rs := [8]) (by kernel_rfl) (by simp) (AllReadyH.cons rfl (fun K hK => ?_) AllReadyH.nil)
         rw [if_pos (by rfl)]
         refine wp_store_row 41 _ _ rfl _ #[.int .i64 ybe, .string ybv, .int .u64 (ybd : Int)] rfl rfl _ _ R_A_105_105.out.1 (by kernel_rfl) rfl ONEyb.out ?_
         have TW_106 := hd (TW_105.out.sr HS5.out R_A_105_105.out.2 (rwp ybe ybv ybd))
         have PL_106 := hd (PL.srl PL_105.out LT5.out R_A_105_105.out.2 (rwp ybe ybv ybd))
         have PR_106 := hd (PL.srr PR_105.out LT5.out R_A_105_105.out.2 (rwp ybe ybv ybd))
         have R_A_106 := hd (R_A_105.out.other NE_A_A_105.out (rwp ybe ybv ybd))
         have R_B_106 := hd (R_B_105.out.other NE_B_A_105.out (rwp ybe ybv ybd))
         have R_A_102_106 := hd (R_A_102_105.out.other NE_A_102_A_105.out (rwp ybe ybv ybd))
         have R_A_105_106 := hd (R_A_105_105.out.same ⟨ybe, ybv, ybd⟩)
         refine hK.out _ _ TW_106.out (fun _ => ?_)
         clear hK K
         refine wpAnyH_ready (rs := [9]) (by kernel_rfl) (by simp) (AllReadyH.cons rfl (fun K hK => ?_) AllReadyH.nil)
         rw [if_pos (by rfl)]
         refine wp_store_row 41 _ _ rfl _ #[.int .i64 yae, .string yav, .int .u64 (yad : Int)] rfl rfl _ _ R_A_102_106.out.1 (by kernel_rfl) rfl ONEya.out ?_
         have TW_107 := hd (TW_106.out.sr HS5.out R_A_102_106.out.2 (rwp yae yav yad))
         have PL_107 := hd (PL.srl PL_106.out LT5.out R_A_102_106.out.2 (rwp yae yav yad))
         have PR_107 := hd (PL.srr PR_106.out LT5.out R_A_102_106.out.2 (rwp yae yav yad))
         have R_A_107 := hd (R_A_106.out.other NE_A_A_102.out (rwp yae yav yad))
         have R_B_107 := hd (R_B_106.out.other NE_B_A_102.out (rwp yae yav yad))
         have R_A_102_107 := hd (R_A_102_106.out.same ⟨yae, yav, yad⟩)
         have R_A_105_107 := hd (R_A_105_106.out.other (Ne.symm NE_A_102_A_105.out) (rwp yae yav yad))
         refine hK.out _ _ TW_107.out (fun _ => ?_)
         clear hK K
         refine wpAnyH_done (by kernel_rfl) ?_ _
         have fin_ : Fr ((u_105.setRow A_105 (rwp ybe ybv ybd)).setRow A_102 (rwp yae yav yad)) A_105 A_102 := HFr.out _ _ _ PL_107.out PR_107.out TW_107.out R_A_107.out R_B_107.out R_A_105_107.out R_A_102_107.out
         obtain ⟨Z, hZ⟩ : ∃ Z, Z = ((u_105.setRow A_105 #[.int .i64 ybe, .string ybv, .int .u64 (ybd : Int)]).setRow A_102 #[.int .i64 yae, .string yav, .int .u64 (yad : Int)]) := ⟨_, rfl⟩
         rw [← hZ] at ⊢
         change Fr _ _ _ at fin_
         rw [show ((u_105.setRow A_105 (rwp ybe ybv ybd)).setRow A_102 (rwp yae yav yad)) = Z from hZ.symm] at fin_
         clear hZ
         exact key Z A_105 A_102 fin_
       ·go_simp
        obtain ⟨u_108, hu_⟩ : ∃ x, x = u_103.alloc (.cells #[.int .i64 0, .string ⟨#[]⟩, .int .u64 0] 41) := ⟨_, rfl⟩
        obtain ⟨A_108, hA_⟩ : ∃ A, A = u_103.heap.size := ⟨_, rfl⟩
        have b_ := belA hu_
        have m_ := Mp.of_below (p := p) (b := b) b_
        have TW_108 := hd (TW_103.out.left m_)
        have PL_108 := hd (PL_103.out.below b_)
        have PR_108 := hd (PR_103.out.below b_)
        have R_A_108_108 : Hid (Row5 S5 u_108 A_108 ⟨0, ⟨#[]⟩, 0⟩) := hd (by rw [hu_, hA_]; exact Row5.new ⟨0, ⟨#[]⟩, 0⟩ (by have := TW_103.out.size; have := HS5.out; omega))
        have R_A_108 := hd (R_A_103.out.mp m_ LT5.out.1 LT5.out.2.1)
        have NE_A_A_108 : Hid (A ≠ A_108) := hd (by have := lt_of_rowR R_A_103.out.1; omega)
        have R_B_108 := hd (R_B_103.out.mp m_ LT5.out.1 LT5.out.2.1)
        have NE_B_A_108 : Hid (B ≠ A_108) := hd (by have := lt_of_rowR R_B_103.out.1; omega)
        have R_A_102_108 := hd (R_A_102_103.out.mp m_ LT5.out.1 LT5.out.2.1)
        have NE_A_102_A_108 : Hid (A_102 ≠ A_108) := hd (by have := lt_of_rowR R_A_102_103.out.1; omega)
        rw [← hu_, ← hA_]
        refine hK.out _ _ TW_108.out (fun _ => ?_)
        clear hK K hu_ hA_ b_ m_
        refine wpAnyH_ready (rs := [5]) (by kernel_rfl) (by simp) ?_
        refine AllReadyH.cons rfl (fun K hK => ?_) (AllReadyH.nil)
        ·go_simp
         refine (DA2.out u_108 PR_108.out).mono ?_; rintro e u_109 ⟨rfl, pl_, mp_⟩
         have PR_109 := hd pl_
         have PL_109 := hd (PL.othr PL_108.out mp_ DIS.out)
         have TW_109 := hd (TW_108.out.right mp_)
         have R_A_109 := hd (R_A_108.out.mp mp_ LT5.out.2.2.1 LT5.out.2.2.2)
         have R_B_109 := hd (R_B_108.out.mp mp_ LT5.out.2.2.1 LT5.out.2.2.2)
         have R_A_102_109 := hd (R_A_102_108.out.mp mp_ LT5.out.2.2.1 LT5.out.2.2.2)
         have R_A_108_109 := hd (R_A_108_108.out.mp mp_ LT5.out.2.2.1 LT5.out.2.2.2)
         clear pl_ mp_
         (try go_simp)
         refine hK.out _ _ TW_109.out (fun _ => ?_)
         clear hK K
         refine wpAnyH_ready (rs := [8]) (by kernel_rfl) (by simp) (AllReadyH.cons rfl (fun K hK => ?_) AllReadyH.nil)
         rw [if_pos (by rfl)]
         refine wp_store_row 41 _ _ rfl _ #[.int .i64 ybe, .string ybv, .int .u64 (ybd : Int)] rfl rfl _ _ R_A_108_109.out.1 (by kernel_rfl) rfl ONEyb.out ?_
         have TW_110 := hd (TW_109.out.sr HS5.out R_A_108_109.out.2 (rwp ybe ybv ybd))
         have PL_110 := hd (PL.srl PL_109.out LT5.out R_A_108_109.out.2 (rwp ybe ybv ybd))
         have PR_110 := hd (PL.srr PR_109.out LT5.out R_A_108_109.out.2 (rwp ybe ybv ybd))
         have R_A_110 := hd (R_A_109.out.other NE_A_A_108.out (rwp ybe ybv ybd))
         have R_B_110 := hd (R_B_109.out.other NE_B_A_108.out (rwp ybe ybv ybd))
         have R_A_102_110 := hd (R_A_102_109.out.other NE_A_102_A_108.out (rwp ybe ybv ybd))
         have R_A_108_110 := hd (R_A_108_109.out.same ⟨ybe, ybv, ybd⟩)
         refine hK.out _ _ TW_110.out (fun _ => ?_)
         clear hK K
         refine wpAnyH_ready (rs := [9]) (by kernel_rfl) (by simp) (AllReadyH.cons rfl (fun K hK => ?_) AllReadyH.nil)
         rw [if_pos (by rfl)]
         refine wp_store_row 41 _ _ rfl _ #[.int .i64 yae, .string yav, .int .u64 (yad : Int)] rfl rfl _ _ R_A_102_110.out.1 (by kernel_rfl) rfl ONEya.out ?_
         have TW_111 := hd (TW_110.out.sr HS5.out R_A_102_110.out.2 (rwp yae yav yad))
         have PL_111 := hd (PL.srl PL_110.out LT5.out R_A_102_110.out.2 (rwp yae yav yad))
         have PR_111 := hd (PL.srr PR_110.out LT5.out R_A_102_110.out.2 (rwp yae yav yad))
         have R_A_111 := hd (R_A_110.out.other NE_A_A_102.out (rwp yae yav yad))
         have R_B_111 := hd (R_B_110.out.other NE_B_A_102.out (rwp yae yav yad))
         have R_A_102_111 := hd (R_A_102_110.out.same ⟨yae, yav, yad⟩)
         have R_A_108_111 := hd (R_A_108_110.out.other (Ne.symm NE_A_102_A_108.out) (rwp yae yav yad))
         refine hK.out _ _ TW_111.out (fun _ => ?_)
         clear hK K
         refine wpAnyH_done (by kernel_rfl) ?_ _
         have fin_ : Fr ((u_109.setRow A_108 (rwp ybe ybv ybd)).setRow A_102 (rwp yae yav yad)) A_108 A_102 := HFr.out _ _ _ PL_111.out PR_111.out TW_111.out R_A_111.out R_B_111.out R_A_108_111.out R_A_102_111.out
         obtain ⟨Z, hZ⟩ : ∃ Z, Z = ((u_109.setRow A_108 #[.int .i64 ybe, .string ybv, .int .u64 (ybd : Int)]).setRow A_102 #[.int .i64 yae, .string yav, .int .u64 (yad : Int)]) := ⟨_, rfl⟩
         rw [← hZ] at ⊢
         change Fr _ _ _ at fin_
         rw [show ((u_109.setRow A_108 (rwp ybe ybv ybd)).setRow A_102 (rwp yae yav yad)) = Z from hZ.symm] at fin_
         clear hZ
         exact key Z A_108 A_102 fin_
      ·go_simp
       obtain ⟨u_112, hu_⟩ : ∃ x, x = u_102.alloc (.cells #[.int .i64 0, .string ⟨#[]⟩, .int .u64 0] 41) := ⟨_, rfl⟩
       obtain ⟨A_112, hA_⟩ : ∃ A, A = u_102.heap.size := ⟨_, rfl⟩
       have b_ := belA hu_
       have m_ := Mp.of_below (p := p) (b := b) b_
       have TW_112 := hd (TW_102.out.left m_)
       have PL_112 := hd (PL_102.out.below b_)
       have PR_112 := hd (PR_102.out.below b_)
       have R_A_112_112 : Hid (Row5 S5 u_112 A_112 ⟨0, ⟨#[]⟩, 0⟩) := hd (by rw [hu_, hA_]; exact Row5.new ⟨0, ⟨#[]⟩, 0⟩ (by have := TW_102.out.size; have := HS5.out; omega))
       have R_A_112 := hd (R_A_102.out.mp m_ LT5.out.1 LT5.out.2.1)
       have NE_A_A_112 : Hid (A ≠ A_112) := hd (by have := lt_of_rowR R_A_102.out.1; omega)
       have R_B_112 := hd (R_B_102.out.mp m_ LT5.out.1 LT5.out.2.1)
       have NE_B_A_112 : Hid (B ≠ A_112) := hd (by have := lt_of_rowR R_B_102.out.1; omega)
       have R_A_102_112 := hd (R_A_102_102.out.mp m_ LT5.out.1 LT5.out.2.1)
       have NE_A_102_A_112 : Hid (A_102 ≠ A_112) := hd (by have := lt_of_rowR R_A_102_102.out.1; omega)
       rw [← hu_, ← hA_]
       refine hK.out _ _ TW_112.out (fun _ => ?_)
       clear hK K hu_ hA_ b_ m_
       refine wpAnyH_ready (rs := [2]) (by kernel_rfl) (by simp) ?_
       refine AllReadyH.cons rfl (fun K hK => ?_) (AllReadyH.nil)
       ·go_simp
        refine (DB2.out u_112 PR_112.out).mono ?_; rintro e u_113 ⟨rfl, pl_, mp_⟩
        have PR_113 := hd pl_
        have PL_113 := hd (PL.othr PL_112.out mp_ DIS.out)
        have TW_113 := hd (TW_112.out.right mp_)
        have R_A_113 := hd (R_A_112.out.mp mp_ LT5.out.2.2.1 LT5.out.2.2.2)
        have R_B_113 := hd (R_B_112.out.mp mp_ LT5.out.2.2.1 LT5.out.2.2.2)
        have R_A_102_113 := hd (R_A_102_112.out.mp mp_ LT5.out.2.2.1 LT5.out.2.2.2)
        have R_A_112_113 := hd (R_A_112_112.out.mp mp_ LT5.out.2.2.1 LT5.out.2.2.2)
        clear pl_ mp_
        (try go_simp)
        refine hK.out _ _ TW_113.out (fun _ => ?_)
        clear hK K
        refine wpAnyH_ready (rs := [5]) (by kernel_rfl) (by simp) ?_
        refine AllReadyH.cons rfl (fun K hK => ?_) (AllReadyH.nil)
        ·go_simp
         refine (DA2.out u_113 PR_113.out).mono ?_; rintro e u_114 ⟨rfl, pl_, mp_⟩
         have PR_114 := hd pl_
         have PL_114 := hd (PL.othr PL_113.out mp_ DIS.out)
         have TW_114 := hd (TW_113.out.right mp_)
         have R_A_114 := hd (R_A_113.out.mp mp_ LT5.out.2.2.1 LT5.out.2.2.2)
         have R_B_114 := hd (R_B_113.out.mp mp_ LT5.out.2.2.1 LT5.out.2.2.2)
         have R_A_102_114 := hd (R_A_102_113.out.mp mp_ LT5.out.2.2.1 LT5.out.2.2.2)
         have R_A_112_114 := hd (R_A_112_113.out.mp mp_ LT5.out.2.2.1 LT5.out.2.2.2)
         clear pl_ mp_
         (try go_simp)
         refine hK.out _ _ TW_114.out (fun _ => ?_)
         clear hK K
         refine wpAnyH_ready (rs := [8]) (by kernel_rfl) (by simp) (AllReadyH.cons rfl (fun K hK => ?_) AllReadyH.nil)
         rw [if_pos (by rfl)]
         refine wp_store_row 41 _ _ rfl _ #[.int .i64 ybe, .string ybv, .int .u64 (ybd : Int)] rfl rfl _ _ R_A_112_114.out.1 (by kernel_rfl) rfl ONEyb.out ?_
         have TW_115 := hd (TW_114.out.sr HS5.out R_A_112_114.out.2 (rwp ybe ybv ybd))
         have PL_115 := hd (PL.srl PL_114.out LT5.out R_A_112_114.out.2 (rwp ybe ybv ybd))
         have PR_115 := hd (PL.srr PR_114.out LT5.out R_A_112_114.out.2 (rwp ybe ybv ybd))
         have R_A_115 := hd (R_A_114.out.other NE_A_A_112.out (rwp ybe ybv ybd))
         have R_B_115 := hd (R_B_114.out.other NE_B_A_112.out (rwp ybe ybv ybd))
         have R_A_102_115 := hd (R_A_102_114.out.other NE_A_102_A_112.out (rwp ybe ybv ybd))
         have R_A_112_115 := hd (R_A_112_114.out.same ⟨ybe, ybv, ybd⟩)
         refine hK.out _ _ TW_115.out (fun _ => ?_)
         clear hK K
         refine wpAnyH_ready (rs := [9]) (by kernel_rfl) (by simp) (AllReadyH.cons rfl (fun K hK => ?_) AllReadyH.nil)
         rw [if_pos (by rfl)]
         refine wp_store_row 41 _ _ rfl _ #[.int .i64 yae, .string yav, .int .u64 (yad : Int)] rfl rfl _ _ R_A_102_115.out.1 (by kernel_rfl) rfl ONEya.out ?_
         have TW_116 := hd (TW_115.out.sr HS5.out R_A_102_115.out.2 (rwp yae yav yad))
         have PL_116 := hd (PL.srl PL_115.out LT5.out R_A_102_115.out.2 (rwp yae yav yad))
         have PR_116 := hd (PL.srr PR_115.out LT5.out R_A_102_115.out.2 (rwp yae yav yad))
         have R_A_116 := hd (R_A_115.out.other NE_A_A_102.out (rwp yae yav yad))
         have R_B_116 := hd (R_B_115.out.other NE_B_A_102.out (rwp yae yav yad))
         have R_A_102_116 := hd (R_A_102_115.out.same ⟨yae, yav, yad⟩)
         have R_A_112_116 := hd (R_A_112_115.out.other (Ne.symm NE_A_102_A_112.out) (rwp yae yav yad))
         refine hK.out _ _ TW_116.out (fun _ => ?_)
         clear hK K
         refine wpAnyH_done (by kernel_rfl) ?_ _
         have fin_ : Fr ((u_114.setRow A_112 (rwp ybe ybv ybd)).setRow A_102 (rwp yae yav yad)) A_112 A_102 := HFr.out _ _ _ PL_116.out PR_116.out TW_116.out R_A_116.out R_B_116.out R_A_112_116.out R_A_102_116.out
         obtain ⟨Z, hZ⟩ : ∃ Z, Z = ((u_114.setRow A_112 #[.int .i64 ybe, .string ybv, .int .u64 (ybd : Int)]).setRow A_102 #[.int .i64 yae, .string yav, .int .u64 (yad : Int)]) := ⟨_, rfl⟩
         rw [← hZ] at ⊢
         change Fr _ _ _ at fin_
         rw [show ((u_114.setRow A_112 (rwp ybe ybv ybd)).setRow A_102 (rwp yae yav yad)) = Z from hZ.symm] at fin_
         clear hZ
         exact key Z A_112 A_102 fin_
    intro v2 C DD hf2
    rw [HFr2.out] at hf2
    obtain ⟨pl2, pr2, tw2, ra2, rb2, rc2, rd2⟩ := hf2
    obtain ⟨a1, b1, c1⟩ := ra2.cells
    obtain ⟨a2, b2, c2⟩ := rb2.cells
    obtain ⟨a3, b3, c3⟩ := rc2.cells
    obtain ⟨a4, b4, c4⟩ := rd2.cells
    simp only at a1 b1 c1 a2 b2 c2 a3 b3 c3 a4 b4 c4
    obtain ⟨L, hL, hll⟩ := pl2.ses
    have PL2 := Lib.hid pl2
    have PR2 := Lib.hid pr2
    have TW2 := Lib.hid tw2
    have HL := Lib.hid hL
    have HLL := Lib.hid hll
    clear pl2 pr2 tw2 ra2 rb2 rc2 rd2 hL hll
    go_wp2_with fail
    refine (sess_is v2 p b (m + 1 + 1) now 1000 fab L PL2.out (by have := HM22.out; omega) HL.out).mono ?_; rintro e z1 ⟨⟨s1, rfl, l1⟩, d1⟩
    have hli := Lives_val z1 s1 L l1 (by have := HLL.out; have := HM22.out; omega)
    obtain ⟨o1, t1, hs1⟩ := l1.form
    subst hs1
    have HLI := Lib.hid hli
    have DZ1 := Lib.hid d1
    clear hli l1 d1 a1 b1 c1 a2 b2 c2 a3 b3 c3 a4 b4 c4
    go_wp2_with fail
    refine (HLI.out).mono ?_; rintro e z2 ⟨⟨s2, rfl, l2⟩, d2⟩
    have DZ2 := Lib.hid (stepR DZ1.out d2)
    have LL2 := Lib.hid l2
    obtain ⟨o2, t2, hs2⟩ := l2.form
    subst hs2
    clear l2 d2
    go_wp2_with fail
    refine (sess_is z2 p' b' (m + 1 + 1) now 1000 fab L (PR2.out.below DZ2.out) (by have := HM22.out; omega) HL.out).mono ?_; rintro e z3 ⟨⟨s3, rfl, l3⟩, d3⟩
    have hli := Lives_val z3 s3 L l3 (by have := HLL.out; have := HM22.out; omega)
    obtain ⟨o3, t3, hs3⟩ := l3.form
    subst hs3
    have HLI3 := Lib.hid hli
    have LL3 := Lib.hid (LL2.out.below d3 (Nat.le_refl _))
    have DZ3 := Lib.hid (stepR DZ2.out d3)
    clear hli l3 d3
    go_wp2_with fail
    refine (HLI3.out).mono ?_; rintro e z4 ⟨⟨s4, rfl, l4⟩, d4⟩
    have DZ4 := Lib.hid (stepR DZ3.out d4)
    have hsm := Same_val z4 _ s4 L L (LL3.out.below d4 (Nat.le_refl _)) l4 (by have := HLL.out; have := HM22.out; omega)
    rw [decide_eq_true rfl] at hsm
    obtain ⟨o4, t4, hs4⟩ := l4.form
    subst hs4
    have HSM := Lib.hid hsm
    clear hsm l4 d4
    go_wp2_with fail
    refine (HSM.out).mono ?_; rintro e z5 ⟨rfl, d5⟩
    have DZ5 := Lib.hid (stepR DZ4.out d5)
    clear d5
    go_wp2_with fail
    refine (fixed_val _).mono ?_; rintro e z6 ⟨rfl, d6⟩
    go_wp2_with fail
    go_ret
    have BF := B5.out.trans ((TW2.out.left (Mp.of_below (p := p) (b := b) (stepR DZ5.out d6))).below (B := X) (by have := LOW.out; have := HYX.out; omega) (by have := LOW.out; have := HYX.out; omega) (by have := LOW.out; have := HYX.out; omega) (by have := LOW.out; have := HYX.out; omega) (by have := B5.out.size; have := HXX.out; omega))
    exact ⟨rfl, by rw [← HXX.out]; exact BF⟩
  ·have hkn : ¬ (s : Int) < (n : Int) := by omega
   clear M15 M25 HX HK
   have hm22 : m ≤ 20 := by have := HM.out; have := HS20.out; omega
   obtain ⟨ya, hya⟩ : ∃ y, y = r0 now ⟨ka, ia, va, xa⟩ (f ia) := ⟨_, rfl⟩
   obtain ⟨yb, hyb⟩ : ∃ y, y = r0 now ⟨kb, ib, vb, xb⟩ (f ib) := ⟨_, rfl⟩
   obtain ⟨ga, hga⟩ : ∃ g, g = h0 now ⟨ka, ia, va, xa⟩ (f ia) := ⟨_, rfl⟩
   obtain ⟨gb, hgb⟩ : ∃ g, g = h0 now ⟨kb, ib, vb, xb⟩ (f ib) := ⟨_, rfl⟩
   obtain ⟨fa, hfa⟩ : ∃ g, g = upd f ia ga := ⟨_, rfl⟩
   obtain ⟨fb, hfb⟩ : ∃ g, g = upd f ib gb := ⟨_, rfl⟩
   obtain ⟨fab, hfab⟩ : ∃ g, g = upd fa ib gb := ⟨_, rfl⟩
   have hfba : upd fb ia ga = fab := by rw [hfab, hfa, hfb]; exact (upd_comm f ia ib ga gb HIDS.out).symm
   have dA1 : ∀ W, PL W p b m now 1000 f → _ := fun W hW => Do_loc W p b m now f ⟨ka, ia, va, xa⟩ (f ia) ga ya hW HCA.out (by omega) rfl hya hga
   have dB1 : ∀ W, PL W p b (m + 1) now 1000 fa → _ := fun W hW => Do_loc W p b (m + 1) now fa ⟨kb, ib, vb, xb⟩ (f ib) gb yb hW HCB.out (by omega) (by rw [hfa]; exact upd_at f ia ib ga (Ne.symm HIDS.out)) hyb hgb
   have dB2 : ∀ W, PL W p' b' m now 1000 f → _ := fun W hW => Do_loc W p' b' m now f ⟨kb, ib, vb, xb⟩ (f ib) gb yb hW HCB.out (by omega) rfl hyb hgb
   have dA2 : ∀ W, PL W p' b' (m + 1) now 1000 fb → _ := fun W hW => Do_loc W p' b' (m + 1) now fb ⟨ka, ia, va, xa⟩ (f ia) ga ya hW HCA.out (by omega) (by rw [hfb]; exact upd_at f ib ia gb HIDS.out) hya hga
   simp only [← hfa] at dA1
   simp only [← hfab] at dB1
   simp only [← hfb] at dB2
   simp only [hfba] at dA2
   obtain ⟨yae, yav, yad⟩ := ya
   obtain ⟨ybe, ybv, ybd⟩ := yb
   simp only [Rq.row, Rp.row] at dA1 dB1 dB2 dA2
   have DA1 := Lib.hid dA1
   have DB1 := Lib.hid dB1
   have DB2 := Lib.hid dB2
   have DA2 := Lib.hid dA2
   have HM22 := Lib.hid hm22
   have ONEya : Hid ((#[.int .i64 yae, .string yav, .int .u64 (yad : Int)] : Array Value).all (·.oneCell') = true) := Lib.hid (by simp [Value.oneCell'])
   have ONEyb : Hid ((#[.int .i64 ybe, .string ybv, .int .u64 (ybd : Int)] : Array Value).all (·.oneCell') = true) := Lib.hid (by simp [Value.oneCell'])
   clear dA1 dB1 dB2 dA2 hya hyb hga hgb hfa hfb hfab hfba hm22
   go_wp2_with fail
   refine wp_region_held (S := fun V => Two w5 V p b p' b') (by kernel_rfl) ?_
   have hS0 : Two w5 { wr with drawn := wr.drawn + 1 } p b p' b' := ⟨TW.out.os, TW.out.tape, TW.out.output, TW.out.size, TW.out.block⟩
   have xc : ∀ V, Two w5 V p b p' b' → V.cell? ⟨X, 0, none⟩ = some (.int .i64 ka) ∧ V.cell? ⟨X, 1, none⟩ = some (.string ia) ∧ V.cell? ⟨X, 2, none⟩ = some (.string va) ∧ V.cell? ⟨X, 3, none⟩ = some (.float .f64 xa) := fun V h => RX.out V (ROWX.out V h)
   have yc : ∀ V, Two w5 V p b p' b' → V.cell? ⟨Y, 0, none⟩ = some (.int .i64 kb) ∧ V.cell? ⟨Y, 1, none⟩ = some (.string ib) ∧ V.cell? ⟨Y, 2, none⟩ = some (.string vb) ∧ V.cell? ⟨Y, 3, none⟩ = some (.float .f64 xb) := fun V h => RY.out V (ROWY.out V h)
   have XC := Lib.hid xc
   have YC := Lib.hid yc
   clear xc yc
   have e0 := fun V h => (XC.out V h).1
   have e1 := fun V h => (XC.out V h).2.1
   have e2 := fun V h => (XC.out V h).2.2.1
   have e3 := fun V h => (XC.out V h).2.2.2
   have g0 := fun V h => (YC.out V h).1
   have g1 := fun V h => (YC.out V h).2.1
   have g2 := fun V h => (YC.out V h).2.2.1
   have g3 := fun V h => (YC.out V h).2.2.2
   refine wpAnyH_take (i := 0) (v := .pointer (some ⟨p, 0, none⟩)) rfl (by kernel_rfl) ?_ ?_ (fun _ _ _ h => h) (Or.inl ⟨by rfl, ?_⟩) hS0 ?_
   · kernel_rfl
   · kernel_rfl
   · intro V hV; go_simp
   refine wpAnyH_take (i := 1) (v := .agg #[.int .i64 ka, .string ia, .string va, .float .f64 xa]) rfl (by kernel_rfl) ?_ ?_ (fun _ _ _ h => h) (Or.inl ⟨by rfl, ?_⟩) hS0 ?_
   · kernel_rfl
   · kernel_rfl
   · intro V hV; go_simp
   refine wpAnyH_take (i := 3) (v := .pointer (some ⟨p, 0, none⟩)) rfl (by kernel_rfl) ?_ ?_ (fun _ _ _ h => h) (Or.inl ⟨by rfl, ?_⟩) hS0 ?_
   · kernel_rfl
   · kernel_rfl
   · intro V hV; go_simp
   refine wpAnyH_take (i := 4) (v := .agg #[.int .i64 kb, .string ib, .string vb, .float .f64 xb]) rfl (by kernel_rfl) ?_ ?_ (fun _ _ _ h => h) (Or.inl ⟨by rfl, ?_⟩) hS0 ?_
   · kernel_rfl
   · kernel_rfl
   · intro V hV; go_simp
   obtain ⟨Wd, hWd⟩ : ∃ x, x = { wr with drawn := wr.drawn + 1 } := ⟨_, rfl⟩
   have bd : Below wr.heap.size wr Wd := by rw [hWd]; exact ⟨rfl, rfl, rfl, Nat.le_refl _, fun _ _ => rfl⟩
   rw [← hWd]
   have PLd := Lib.hid (PLr.out.below bd)
   have PRd := Lib.hid (PLs.out.below bd)
   have TWd := Lib.hid (TW.out.left (Mp.of_below (p := p) (b := b) bd))
   clear hWd hS0 bd e0 e1 e2 e3 g0 g1 g2 g3 PLr PLs TW
   obtain ⟨Fl, hFl⟩ : ∃ F : World → Nat → Nat → Prop, F = fun V A B => PL V p b (m + 1 + 1) now 1000 fab ∧ PL V p' b' m now 1000 f ∧ Two w5 V p b p' b' ∧ Row5 S5 V A ⟨yae, yav, yad⟩ ∧ Row5 S5 V B ⟨ybe, ybv, ybd⟩ := ⟨_, rfl⟩
   have HFl : Hid (∀ V A B, PL V p b (m + 1 + 1) now 1000 fab → PL V p' b' m now 1000 f → Two w5 V p b p' b' → Row5 S5 V A ⟨yae, yav, yad⟩ → Row5 S5 V B ⟨ybe, ybv, ybd⟩ → Fl V A B) := Lib.hid (by rw [hFl]; exact fun V A B a b c d e => ⟨a, b, c, d, e⟩)
   have HFl2 := Lib.hid hFl
   clear hFl
   apply split_key (F := Fl)
   ·intro key
    refine wpAnyH_ready (rs := [2, 6, 7]) (by kernel_rfl) (by simp) ?_
    refine AllReadyH.cons rfl (fun K hK => ?_) (AllReadyH.cons rfl (fun K hK => ?_) (AllReadyH.cons rfl (fun K hK => ?_) (AllReadyH.nil)))
    ·go_simp
     refine (DA1.out Wd PLd.out).mono ?_; rintro e u_1 ⟨rfl, pl_, mp_⟩
     have PL_1 := hd pl_
     have PR_1 := hd (PL.othl PRd.out mp_ DIS.out)
     have TW_1 := hd (TWd.out.left mp_)
     clear pl_ mp_
     (try go_simp)
     refine hK.out _ _ TW_1.out (fun _ => ?_)
     clear hK K
     refine wpAnyH_ready (rs := [5, 6, 7]) (by kernel_rfl) (by simp) ?_
     refine AllReadyH.cons rfl (fun K hK => ?_) (AllReadyH.cons rfl (fun K hK => ?_) (AllReadyH.cons rfl (fun K hK => ?_) (AllReadyH.nil)))
     ·go_simp
      refine (DB1.out u_1 PL_1.out).mono ?_; rintro e u_2 ⟨rfl, pl_, mp_⟩
      have PL_2 := hd pl_
      have PR_2 := hd (PL.othl PR_1.out mp_ DIS.out)
      have TW_2 := hd (TW_1.out.left mp_)
      clear pl_ mp_
      (try go_simp)
      refine hK.out _ _ TW_2.out (fun _ => ?_)
      clear hK K
      refine wpAnyH_ready (rs := [6, 7]) (by kernel_rfl) (by simp) ?_
      refine AllReadyH.cons rfl (fun K hK => ?_) (AllReadyH.cons rfl (fun K hK => ?_) (AllReadyH.nil))
      ·go_simp
       obtain ⟨u_3, hu_⟩ : ∃ x, x = u_2.alloc (.cells #[.int .i64 0, .string ⟨#[]⟩, .int .u64 0] 41) := ⟨_, rfl⟩
       obtain ⟨A_3, hA_⟩ : ∃ A, A = u_2.heap.size := ⟨_, rfl⟩
       have b_ := belA hu_
       have m_ := Mp.of_below (p := p) (b := b) b_
       have TW_3 := hd (TW_2.out.left m_)
       have PL_3 := hd (PL_2.out.below b_)
       have PR_3 := hd (PR_2.out.below b_)
       have R_A_3_3 : Hid (Row5 S5 u_3 A_3 ⟨0, ⟨#[]⟩, 0⟩) := hd (by rw [hu_, hA_]; exact Row5.new ⟨0, ⟨#[]⟩, 0⟩ (by have := TW_2.out.size; have := HS5.out; omega))
       rw [← hu_, ← hA_]
       refine hK.out _ _ TW_3.out (fun _ => ?_)
       clear hK K hu_ hA_ b_ m_
       refine wpAnyH_ready (rs := [7]) (by kernel_rfl) (by simp) ?_
       refine AllReadyH.cons rfl (fun K hK => ?_) (AllReadyH.nil)
       ·go_simp
        obtain ⟨u_4, hu_⟩ : ∃ x, x = u_3.alloc (.cells #[.int .i64 0, .string ⟨#[]⟩, .int .u64 0] 41) := ⟨_, rfl⟩
        obtain ⟨A_4, hA_⟩ : ∃ A, A = u_3.heap.size := ⟨_, rfl⟩
        have b_ := belA hu_
        have m_ := Mp.of_below (p := p) (b := b) b_
        have TW_4 := hd (TW_3.out.left m_)
        have PL_4 := hd (PL_3.out.below b_)
        have PR_4 := hd (PR_3.out.below b_)
        have R_A_4_4 : Hid (Row5 S5 u_4 A_4 ⟨0, ⟨#[]⟩, 0⟩) := hd (by rw [hu_, hA_]; exact Row5.new ⟨0, ⟨#[]⟩, 0⟩ (by have := TW_3.out.size; have := HS5.out; omega))
        have R_A_3_4 := hd (R_A_3_3.out.mp m_ LT5.out.1 LT5.out.2.1)
        have NE_A_3_A_4 : Hid (A_3 ≠ A_4) := hd (by have := lt_of_rowR R_A_3_3.out.1; omega)
        rw [← hu_, ← hA_]
        refine hK.out _ _ TW_4.out (fun _ => ?_)
        clear hK K hu_ hA_ b_ m_
        refine wpAnyH_ready (rs := [8]) (by kernel_rfl) (by simp) (AllReadyH.cons rfl (fun K hK => ?_) AllReadyH.nil)
        rw [if_pos (by rfl)]
        refine wp_store_row 41 _ _ rfl _ #[.int .i64 yae, .string yav, .int .u64 (yad : Int)] rfl rfl _ _ R_A_3_4.out.1 (by kernel_rfl) rfl ONEya.out ?_
        have TW_5 := hd (TW_4.out.sr HS5.out R_A_3_4.out.2 (rwp yae yav yad))
        have PL_5 := hd (PL.srl PL_4.out LT5.out R_A_3_4.out.2 (rwp yae yav yad))
        have PR_5 := hd (PL.srr PR_4.out LT5.out R_A_3_4.out.2 (rwp yae yav yad))
        have R_A_3_5 := hd (R_A_3_4.out.same ⟨yae, yav, yad⟩)
        have R_A_4_5 := hd (R_A_4_4.out.other (Ne.symm NE_A_3_A_4.out) (rwp yae yav yad))
        refine hK.out _ _ TW_5.out (fun _ => ?_)
        clear hK K
        refine wpAnyH_ready (rs := [9]) (by kernel_rfl) (by simp) (AllReadyH.cons rfl (fun K hK => ?_) AllReadyH.nil)
        rw [if_pos (by rfl)]
        refine wp_store_row 41 _ _ rfl _ #[.int .i64 ybe, .string ybv, .int .u64 (ybd : Int)] rfl rfl _ _ R_A_4_5.out.1 (by kernel_rfl) rfl ONEyb.out ?_
        have TW_6 := hd (TW_5.out.sr HS5.out R_A_4_5.out.2 (rwp ybe ybv ybd))
        have PL_6 := hd (PL.srl PL_5.out LT5.out R_A_4_5.out.2 (rwp ybe ybv ybd))
        have PR_6 := hd (PL.srr PR_5.out LT5.out R_A_4_5.out.2 (rwp ybe ybv ybd))
        have R_A_3_6 := hd (R_A_3_5.out.other NE_A_3_A_4.out (rwp ybe ybv ybd))
        have R_A_4_6 := hd (R_A_4_5.out.same ⟨ybe, ybv, ybd⟩)
        refine hK.out _ _ TW_6.out (fun _ => ?_)
        clear hK K
        refine wpAnyH_done (by kernel_rfl) ?_ _
        have fin_ : Fl ((u_4.setRow A_3 (rwp yae yav yad)).setRow A_4 (rwp ybe ybv ybd)) A_3 A_4 := HFl.out _ _ _ PL_6.out PR_6.out TW_6.out R_A_3_6.out R_A_4_6.out
        obtain ⟨Z, hZ⟩ : ∃ Z, Z = ((u_4.setRow A_3 #[.int .i64 yae, .string yav, .int .u64 (yad : Int)]).setRow A_4 #[.int .i64 ybe, .string ybv, .int .u64 (ybd : Int)]) := ⟨_, rfl⟩
        rw [← hZ] at ⊢
        change Fl _ _ _ at fin_
        rw [show ((u_4.setRow A_3 (rwp yae yav yad)).setRow A_4 (rwp ybe ybv ybd)) = Z from hZ.symm] at fin_
        clear hZ
        exact key Z A_3 A_4 fin_
      ·go_simp
       obtain ⟨u_7, hu_⟩ : ∃ x, x = u_2.alloc (.cells #[.int .i64 0, .string ⟨#[]⟩, .int .u64 0] 41) := ⟨_, rfl⟩
       obtain ⟨A_7, hA_⟩ : ∃ A, A = u_2.heap.size := ⟨_, rfl⟩
       have b_ := belA hu_
       have m_ := Mp.of_below (p := p) (b := b) b_
       have TW_7 := hd (TW_2.out.left m_)
       have PL_7 := hd (PL_2.out.below b_)
       have PR_7 := hd (PR_2.out.below b_)
       have R_A_7_7 : Hid (Row5 S5 u_7 A_7 ⟨0, ⟨#[]⟩, 0⟩) := hd (by rw [hu_, hA_]; exact Row5.new ⟨0, ⟨#[]⟩, 0⟩ (by have := TW_2.out.size; have := HS5.out; omega))
       rw [← hu_, ← hA_]
       refine hK.out _ _ TW_7.out (fun _ => ?_)
       clear hK K hu_ hA_ b_ m_
       refine wpAnyH_ready (rs := [6]) (by kernel_rfl) (by simp) ?_
       refine AllReadyH.cons rfl (fun K hK => ?_) (AllReadyH.nil)
       ·go_simp
        obtain ⟨u_8, hu_⟩ : ∃ x, x = u_7.alloc (.cells #[.int .i64 0, .string ⟨#[]⟩, .int .u64 0] 41) := ⟨_, rfl⟩
        obtain ⟨A_8, hA_⟩ : ∃ A, A = u_7.heap.size := ⟨_, rfl⟩
        have b_ := belA hu_
        have m_ := Mp.of_below (p := p) (b := b) b_
        have TW_8 := hd (TW_7.out.left m_)
        have PL_8 := hd (PL_7.out.below b_)
        have PR_8 := hd (PR_7.out.below b_)
        have R_A_8_8 : Hid (Row5 S5 u_8 A_8 ⟨0, ⟨#[]⟩, 0⟩) := hd (by rw [hu_, hA_]; exact Row5.new ⟨0, ⟨#[]⟩, 0⟩ (by have := TW_7.out.size; have := HS5.out; omega))
        have R_A_7_8 := hd (R_A_7_7.out.mp m_ LT5.out.1 LT5.out.2.1)
        have NE_A_7_A_8 : Hid (A_7 ≠ A_8) := hd (by have := lt_of_rowR R_A_7_7.out.1; omega)
        rw [← hu_, ← hA_]
        refine hK.out _ _ TW_8.out (fun _ => ?_)
        clear hK K hu_ hA_ b_ m_
        refine wpAnyH_ready (rs := [8]) (by kernel_rfl) (by simp) (AllReadyH.cons rfl (fun K hK => ?_) AllReadyH.nil)
        rw [if_pos (by rfl)]
        refine wp_store_row 41 _ _ rfl _ #[.int .i64 yae, .string yav, .int .u64 (yad : Int)] rfl rfl _ _ R_A_8_8.out.1 (by kernel_rfl) rfl ONEya.out ?_
        have TW_9 := hd (TW_8.out.sr HS5.out R_A_8_8.out.2 (rwp yae yav yad))
        have PL_9 := hd (PL.srl PL_8.out LT5.out R_A_8_8.out.2 (rwp yae yav yad))
        have PR_9 := hd (PL.srr PR_8.out LT5.out R_A_8_8.out.2 (rwp yae yav yad))
        have R_A_7_9 := hd (R_A_7_8.out.other NE_A_7_A_8.out (rwp yae yav yad))
        have R_A_8_9 := hd (R_A_8_8.out.same ⟨yae, yav, yad⟩)
        refine hK.out _ _ TW_9.out (fun _ => ?_)
        clear hK K
        refine wpAnyH_ready (rs := [9]) (by kernel_rfl) (by simp) (AllReadyH.cons rfl (fun K hK => ?_) AllReadyH.nil)
        rw [if_pos (by rfl)]
        refine wp_store_row 41 _ _ rfl _ #[.int .i64 ybe, .string ybv, .int .u64 (ybd : Int)] rfl rfl _ _ R_A_7_9.out.1 (by kernel_rfl) rfl ONEyb.out ?_
        have TW_10 := hd (TW_9.out.sr HS5.out R_A_7_9.out.2 (rwp ybe ybv ybd))
        have PL_10 := hd (PL.srl PL_9.out LT5.out R_A_7_9.out.2 (rwp ybe ybv ybd))
        have PR_10 := hd (PL.srr PR_9.out LT5.out R_A_7_9.out.2 (rwp ybe ybv ybd))
        have R_A_7_10 := hd (R_A_7_9.out.same ⟨ybe, ybv, ybd⟩)
        have R_A_8_10 := hd (R_A_8_9.out.other (Ne.symm NE_A_7_A_8.out) (rwp ybe ybv ybd))
        refine hK.out _ _ TW_10.out (fun _ => ?_)
        clear hK K
        refine wpAnyH_done (by kernel_rfl) ?_ _
        have fin_ : Fl ((u_8.setRow A_8 (rwp yae yav yad)).setRow A_7 (rwp ybe ybv ybd)) A_8 A_7 := HFl.out _ _ _ PL_10.out PR_10.out TW_10.out R_A_8_10.out R_A_7_10.out
        obtain ⟨Z, hZ⟩ : ∃ Z, Z = ((u_8.setRow A_8 #[.int .i64 yae, .string yav, .int .u64 (yad : Int)]).setRow A_7 #[.int .i64 ybe, .string ybv, .int .u64 (ybd : Int)]) := ⟨_, rfl⟩
        rw [← hZ] at ⊢
        change Fl _ _ _ at fin_
        rw [show ((u_8.setRow A_8 (rwp yae yav yad)).setRow A_7 (rwp ybe ybv ybd)) = Z from hZ.symm] at fin_
        clear hZ
        exact key Z A_8 A_7 fin_
     ·go_simp
      obtain ⟨u_11, hu_⟩ : ∃ x, x = u_1.alloc (.cells #[.int .i64 0, .string ⟨#[]⟩, .int .u64 0] 41) := ⟨_, rfl⟩
      obtain ⟨A_11, hA_⟩ : ∃ A, A = u_1.heap.size := ⟨_, rfl⟩
      have b_ := belA hu_
      have m_ := Mp.of_below (p := p) (b := b) b_
      have TW_11 := hd (TW_1.out.left m_)
      have PL_11 := hd (PL_1.out.below b_)
      have PR_11 := hd (PR_1.out.below b_)
      have R_A_11_11 : Hid (Row5 S5 u_11 A_11 ⟨0, ⟨#[]⟩, 0⟩) := hd (by rw [hu_, hA_]; exact Row5.new ⟨0, ⟨#[]⟩, 0⟩ (by have := TW_1.out.size; have := HS5.out; omega))
      rw [← hu_, ← hA_]
      refine hK.out _ _ TW_11.out (fun _ => ?_)
      clear hK K hu_ hA_ b_ m_
      refine wpAnyH_ready (rs := [5, 7]) (by kernel_rfl) (by simp) ?_
      refine AllReadyH.cons rfl (fun K hK => ?_) (AllReadyH.cons rfl (fun K hK => ?_) (AllReadyH.nil))
      ·go_simp
       refine (DB1.out u_11 PL_11.out).mono ?_; rintro e u_12 ⟨rfl, pl_, mp_⟩
       have PL_12 := hd pl_
       have PR_12 := hd (PL.othl PR_11.out mp_ DIS.out)
       have TW_12 := hd (TW_11.out.left mp_)
       have R_A_11_12 := hd (R_A_11_11.out.mp mp_ LT5.out.1 LT5.out.2.1)
       clear pl_ mp_
       (try go_simp)
       refine hK.out _ _ TW_12.out (fun _ => ?_)
       clear hK K
       refine wpAnyH_ready (rs := [7]) (by kernel_rfl) (by simp) ?_
       refine AllReadyH.cons rfl (fun K hK => ?_) (AllReadyH.nil)
       ·go_simp
        obtain ⟨u_13, hu_⟩ : ∃ x, x = u_12.alloc (.cells #[.int .i64 0, .string ⟨#[]⟩, .int .u64 0] 41) := ⟨_, rfl⟩
        obtain ⟨A_13, hA_⟩ : ∃ A, A = u_12.heap.size := ⟨_, rfl⟩
        have b_ := belA hu_
        have m_ := Mp.of_below (p := p) (b := b) b_
        have TW_13 := hd (TW_12.out.left m_)
        have PL_13 := hd (PL_12.out.below b_)
        have PR_13 := hd (PR_12.out.below b_)
        have R_A_13_13 : Hid (Row5 S5 u_13 A_13 ⟨0, ⟨#[]⟩, 0⟩) := hd (by rw [hu_, hA_]; exact Row5.new ⟨0, ⟨#[]⟩, 0⟩ (by have := TW_12.out.size; have := HS5.out; omega))
        have R_A_11_13 := hd (R_A_11_12.out.mp m_ LT5.out.1 LT5.out.2.1)
        have NE_A_11_A_13 : Hid (A_11 ≠ A_13) := hd (by have := lt_of_rowR R_A_11_12.out.1; omega)
        rw [← hu_, ← hA_]
        refine hK.out _ _ TW_13.out (fun _ => ?_)
        clear hK K hu_ hA_ b_ m_
        refine wpAnyH_ready (rs := [8]) (by kernel_rfl) (by simp) (AllReadyH.cons rfl (fun K hK => ?_) AllReadyH.nil)
        rw [if_pos (by rfl)]
        refine wp_store_row 41 _ _ rfl _ #[.int .i64 yae, .string yav, .int .u64 (yad : Int)] rfl rfl _ _ R_A_11_13.out.1 (by kernel_rfl) rfl ONEya.out ?_
        have TW_14 := hd (TW_13.out.sr HS5.out R_A_11_13.out.2 (rwp yae yav yad))
        have PL_14 := hd (PL.srl PL_13.out LT5.out R_A_11_13.out.2 (rwp yae yav yad))
        have PR_14 := hd (PL.srr PR_13.out LT5.out R_A_11_13.out.2 (rwp yae yav yad))
        have R_A_11_14 := hd (R_A_11_13.out.same ⟨yae, yav, yad⟩)
        have R_A_13_14 := hd (R_A_13_13.out.other (Ne.symm NE_A_11_A_13.out) (rwp yae yav yad))
        refine hK.out _ _ TW_14.out (fun _ => ?_)
        clear hK K
        refine wpAnyH_ready (rs := [9]) (by kernel_rfl) (by simp) (AllReadyH.cons rfl (fun K hK => ?_) AllReadyH.nil)
        rw [if_pos (by rfl)]
        refine wp_store_row 41 _ _ rfl _ #[.int .i64 ybe, .string ybv, .int .u64 (ybd : Int)] rfl rfl _ _ R_A_13_14.out.1 (by kernel_rfl) rfl ONEyb.out ?_
        have TW_15 := hd (TW_14.out.sr HS5.out R_A_13_14.out.2 (rwp ybe ybv ybd))
        have PL_15 := hd (PL.srl PL_14.out LT5.out R_A_13_14.out.2 (rwp ybe ybv ybd))
        have PR_15 := hd (PL.srr PR_14.out LT5.out R_A_13_14.out.2 (rwp ybe ybv ybd))
        have R_A_11_15 := hd (R_A_11_14.out.other NE_A_11_A_13.out (rwp ybe ybv ybd))
        have R_A_13_15 := hd (R_A_13_14.out.same ⟨ybe, ybv, ybd⟩)
        refine hK.out _ _ TW_15.out (fun _ => ?_)
        clear hK K
        refine wpAnyH_done (by kernel_rfl) ?_ _
        have fin_ : Fl ((u_13.setRow A_11 (rwp yae yav yad)).setRow A_13 (rwp ybe ybv ybd)) A_11 A_13 := HFl.out _ _ _ PL_15.out PR_15.out TW_15.out R_A_11_15.out R_A_13_15.out
        obtain ⟨Z, hZ⟩ : ∃ Z, Z = ((u_13.setRow A_11 #[.int .i64 yae, .string yav, .int .u64 (yad : Int)]).setRow A_13 #[.int .i64 ybe, .string ybv, .int .u64 (ybd : Int)]) := ⟨_, rfl⟩
        rw [← hZ] at ⊢
        change Fl _ _ _ at fin_
        rw [show ((u_13.setRow A_11 (rwp yae yav yad)).setRow A_13 (rwp ybe ybv ybd)) = Z from hZ.symm] at fin_
        clear hZ
        exact key Z A_11 A_13 fin_
      ·go_simp
       obtain ⟨u_16, hu_⟩ : ∃ x, x = u_11.alloc (.cells #[.int .i64 0, .string ⟨#[]⟩, .int .u64 0] 41) := ⟨_, rfl⟩
       obtain ⟨A_16, hA_⟩ : ∃ A, A = u_11.heap.size := ⟨_, rfl⟩
       have b_ := belA hu_
       have m_ := Mp.of_below (p := p) (b := b) b_
       have TW_16 := hd (TW_11.out.left m_)
       have PL_16 := hd (PL_11.out.below b_)
       have PR_16 := hd (PR_11.out.below b_)
       have R_A_16_16 : Hid (Row5 S5 u_16 A_16 ⟨0, ⟨#[]⟩, 0⟩) := hd (by rw [hu_, hA_]; exact Row5.new ⟨0, ⟨#[]⟩, 0⟩ (by have := TW_11.out.size; have := HS5.out; omega))
       have R_A_11_16 := hd (R_A_11_11.out.mp m_ LT5.out.1 LT5.out.2.1)
       have NE_A_11_A_16 : Hid (A_11 ≠ A_16) := hd (by have := lt_of_rowR R_A_11_11.out.1; omega)
       rw [← hu_, ← hA_]
       refine hK.out _ _ TW_16.out (fun _ => ?_)
       clear hK K hu_ hA_ b_ m_
       refine wpAnyH_ready (rs := [5]) (by kernel_rfl) (by simp) ?_
       refine AllReadyH.cons rfl (fun K hK => ?_) (AllReadyH.nil)
       ·go_simp
        refine (DB1.out u_16 PL_16.out).mono ?_; rintro e u_17 ⟨rfl, pl_, mp_⟩
        have PL_17 := hd pl_
        have PR_17 := hd (PL.othl PR_16.out mp_ DIS.out)
        have TW_17 := hd (TW_16.out.left mp_)
        have R_A_11_17 := hd (R_A_11_16.out.mp mp_ LT5.out.1 LT5.out.2.1)
        have R_A_16_17 := hd (R_A_16_16.out.mp mp_ LT5.out.1 LT5.out.2.1)
        clear pl_ mp_
        (try go_simp)
        refine hK.out _ _ TW_17.out (fun _ => ?_)
        clear hK K
        refine wpAnyH_ready (rs := [8]) (by kernel_rfl) (by simp) (AllReadyH.cons rfl (fun K hK => ?_) AllReadyH.nil)
        rw [if_pos (by rfl)]
        refine wp_store_row 41 _ _ rfl _ #[.int .i64 yae, .string yav, .int .u64 (yad : Int)] rfl rfl _ _ R_A_11_17.out.1 (by kernel_rfl) rfl ONEya.out ?_
        have TW_18 := hd (TW_17.out.sr HS5.out R_A_11_17.out.2 (rwp yae yav yad))
        have PL_18 := hd (PL.srl PL_17.out LT5.out R_A_11_17.out.2 (rwp yae yav yad))
        have PR_18 := hd (PL.srr PR_17.out LT5.out R_A_11_17.out.2 (rwp yae yav yad))
        have R_A_11_18 := hd (R_A_11_17.out.same ⟨yae, yav, yad⟩)
        have R_A_16_18 := hd (R_A_16_17.out.other (Ne.symm NE_A_11_A_16.out) (rwp yae yav yad))
        refine hK.out _ _ TW_18.out (fun _ => ?_)
        clear hK K
        refine wpAnyH_ready (rs := [9]) (by kernel_rfl) (by simp) (AllReadyH.cons rfl (fun K hK => ?_) AllReadyH.nil)
        rw [if_pos (by rfl)]
        refine wp_store_row 41 _ _ rfl _ #[.int .i64 ybe, .string ybv, .int .u64 (ybd : Int)] rfl rfl _ _ R_A_16_18.out.1 (by kernel_rfl) rfl ONEyb.out ?_
        have TW_19 := hd (TW_18.out.sr HS5.out R_A_16_18.out.2 (rwp ybe ybv ybd))
        have PL_19 := hd (PL.srl PL_18.out LT5.out R_A_16_18.out.2 (rwp ybe ybv ybd))
        have PR_19 := hd (PL.srr PR_18.out LT5.out R_A_16_18.out.2 (rwp ybe ybv ybd))
        have R_A_11_19 := hd (R_A_11_18.out.other NE_A_11_A_16.out (rwp ybe ybv ybd))
        have R_A_16_19 := hd (R_A_16_18.out.same ⟨ybe, ybv, ybd⟩)
        refine hK.out _ _ TW_19.out (fun _ => ?_)
        clear hK K
        refine wpAnyH_done (by kernel_rfl) ?_ _
        have fin_ : Fl ((u_17.setRow A_11 (rwp yae yav yad)).setRow A_16 (rwp ybe ybv ybd)) A_11 A_16 := HFl.out _ _ _ PL_19.out PR_19.out TW_19.out R_A_11_19.out R_A_16_19.out
        obtain ⟨Z, hZ⟩ : ∃ Z, Z = ((u_17.setRow A_11 #[.int .i64 yae, .string yav, .int .u64 (yad : Int)]).setRow A_16 #[.int .i64 ybe, .string ybv, .int .u64 (ybd : Int)]) := ⟨_, rfl⟩
        rw [← hZ] at ⊢
        change Fl _ _ _ at fin_
        rw [show ((u_17.setRow A_11 (rwp yae yav yad)).setRow A_16 (rwp ybe ybv ybd)) = Z from hZ.symm] at fin_
        clear hZ
        exact key Z A_11 A_16 fin_
     ·go_simp
      obtain ⟨u_20, hu_⟩ : ∃ x, x = u_1.alloc (.cells #[.int .i64 0, .string ⟨#[]⟩, .int .u64 0] 41) := ⟨_, rfl⟩
      obtain ⟨A_20, hA_⟩ : ∃ A, A = u_1.heap.size := ⟨_, rfl⟩
      have b_ := belA hu_
      have m_ := Mp.of_below (p := p) (b := b) b_
      have TW_20 := hd (TW_1.out.left m_)
      have PL_20 := hd (PL_1.out.below b_)
      have PR_20 := hd (PR_1.out.below b_)
      have R_A_20_20 : Hid (Row5 S5 u_20 A_20 ⟨0, ⟨#[]⟩, 0⟩) := hd (by rw [hu_, hA_]; exact Row5.new ⟨0, ⟨#[]⟩, 0⟩ (by have := TW_1.out.size; have := HS5.out; omega))
      rw [← hu_, ← hA_]
      refine hK.out _ _ TW_20.out (fun _ => ?_)
      clear hK K hu_ hA_ b_ m_
      refine wpAnyH_ready (rs := [5, 6]) (by kernel_rfl) (by simp) ?_
      refine AllReadyH.cons rfl (fun K hK => ?_) (AllReadyH.cons rfl (fun K hK => ?_) (AllReadyH.nil))
      ·go_simp
       refine (DB1.out u_20 PL_20.out).mono ?_; rintro e u_21 ⟨rfl, pl_, mp_⟩
       have PL_21 := hd pl_
       have PR_21 := hd (PL.othl PR_20.out mp_ DIS.out)
       have TW_21 := hd (TW_20.out.left mp_)
       have R_A_20_21 := hd (R_A_20_20.out.mp mp_ LT5.out.1 LT5.out.2.1)
       clear pl_ mp_
       (try go_simp)
       refine hK.out _ _ TW_21.out (fun _ => ?_)
       clear hK K
       refine wpAnyH_ready (rs := [6]) (by kernel_rfl) (by simp) ?_
       refine AllReadyH.cons rfl (fun K hK => ?_) (AllReadyH.nil)
       ·go_simp
        obtain ⟨u_22, hu_⟩ : ∃ x, x = u_21.alloc (.cells #[.int .i64 0, .string ⟨#[]⟩, .int .u64 0] 41) := ⟨_, rfl⟩
        obtain ⟨A_22, hA_⟩ : ∃ A, A = u_21.heap.size := ⟨_, rfl⟩
        have b_ := belA hu_
        have m_ := Mp.of_below (p := p) (b := b) b_
        have TW_22 := hd (TW_21.out.left m_)
        have PL_22 := hd (PL_21.out.below b_)
        have PR_22 := hd (PR_21.out.below b_)
        have R_A_22_22 : Hid (Row5 S5 u_22 A_22 ⟨0, ⟨#[]⟩, 0⟩) := hd (by rw [hu_, hA_]; exact Row5.new ⟨0, ⟨#[]⟩, 0⟩ (by have := TW_21.out.size; have := HS5.out; omega))
        have R_A_20_22 := hd (R_A_20_21.out.mp m_ LT5.out.1 LT5.out.2.1)
        have NE_A_20_A_22 : Hid (A_20 ≠ A_22) := hd (by have := lt_of_rowR R_A_20_21.out.1; omega)
        rw [← hu_, ← hA_]
        refine hK.out _ _ TW_22.out (fun _ => ?_)
        clear hK K hu_ hA_ b_ m_
        refine wpAnyH_ready (rs := [8]) (by kernel_rfl) (by simp) (AllReadyH.cons rfl (fun K hK => ?_) AllReadyH.nil)
        rw [if_pos (by rfl)]
        refine wp_store_row 41 _ _ rfl _ #[.int .i64 yae, .string yav, .int .u64 (yad : Int)] rfl rfl _ _ R_A_22_22.out.1 (by kernel_rfl) rfl ONEya.out ?_
        have TW_23 := hd (TW_22.out.sr HS5.out R_A_22_22.out.2 (rwp yae yav yad))
        have PL_23 := hd (PL.srl PL_22.out LT5.out R_A_22_22.out.2 (rwp yae yav yad))
        have PR_23 := hd (PL.srr PR_22.out LT5.out R_A_22_22.out.2 (rwp yae yav yad))
        have R_A_20_23 := hd (R_A_20_22.out.other NE_A_20_A_22.out (rwp yae yav yad))
        have R_A_22_23 := hd (R_A_22_22.out.same ⟨yae, yav, yad⟩)
        refine hK.out _ _ TW_23.out (fun _ => ?_)
        clear hK K
        refine wpAnyH_ready (rs := [9]) (by kernel_rfl) (by simp) (AllReadyH.cons rfl (fun K hK => ?_) AllReadyH.nil)
        rw [if_pos (by rfl)]
        refine wp_store_row 41 _ _ rfl _ #[.int .i64 ybe, .string ybv, .int .u64 (ybd : Int)] rfl rfl _ _ R_A_20_23.out.1 (by kernel_rfl) rfl ONEyb.out ?_
        have TW_24 := hd (TW_23.out.sr HS5.out R_A_20_23.out.2 (rwp ybe ybv ybd))
        have PL_24 := hd (PL.srl PL_23.out LT5.out R_A_20_23.out.2 (rwp ybe ybv ybd))
        have PR_24 := hd (PL.srr PR_23.out LT5.out R_A_20_23.out.2 (rwp ybe ybv ybd))
        have R_A_20_24 := hd (R_A_20_23.out.same ⟨ybe, ybv, ybd⟩)
        have R_A_22_24 := hd (R_A_22_23.out.other (Ne.symm NE_A_20_A_22.out) (rwp ybe ybv ybd))
        refine hK.out _ _ TW_24.out (fun _ => ?_)
        clear hK K
        refine wpAnyH_done (by kernel_rfl) ?_ _
        have fin_ : Fl ((u_22.setRow A_22 (rwp yae yav yad)).setRow A_20 (rwp ybe ybv ybd)) A_22 A_20 := HFl.out _ _ _ PL_24.out PR_24.out TW_24.out R_A_22_24.out R_A_20_24.out
        obtain ⟨Z, hZ⟩ : ∃ Z, Z = ((u_22.setRow A_22 #[.int .i64 yae, .string yav, .int .u64 (yad : Int)]).setRow A_20 #[.int .i64 ybe, .string ybv, .int .u64 (ybd : Int)]) := ⟨_, rfl⟩
        rw [← hZ] at ⊢
        change Fl _ _ _ at fin_
        rw [show ((u_22.setRow A_22 (rwp yae yav yad)).setRow A_20 (rwp ybe ybv ybd)) = Z from hZ.symm] at fin_
        clear hZ
        exact key Z A_22 A_20 fin_
      ·go_simp
       obtain ⟨u_25, hu_⟩ : ∃ x, x = u_20.alloc (.cells #[.int .i64 0, .string ⟨#[]⟩, .int .u64 0] 41) := ⟨_, rfl⟩
       obtain ⟨A_25, hA_⟩ : ∃ A, A = u_20.heap.size := ⟨_, rfl⟩
       have b_ := belA hu_
       have m_ := Mp.of_below (p := p) (b := b) b_
       have TW_25 := hd (TW_20.out.left m_)
       have PL_25 := hd (PL_20.out.below b_)
       have PR_25 := hd (PR_20.out.below b_)
       have R_A_25_25 : Hid (Row5 S5 u_25 A_25 ⟨0, ⟨#[]⟩, 0⟩) := hd (by rw [hu_, hA_]; exact Row5.new ⟨0, ⟨#[]⟩, 0⟩ (by have := TW_20.out.size; have := HS5.out; omega))
       have R_A_20_25 := hd (R_A_20_20.out.mp m_ LT5.out.1 LT5.out.2.1)
       have NE_A_20_A_25 : Hid (A_20 ≠ A_25) := hd (by have := lt_of_rowR R_A_20_20.out.1; omega)
       rw [← hu_, ← hA_]
       refine hK.out _ _ TW_25.out (fun _ => ?_)
       clear hK K hu_ hA_ b_ m_
       refine wpAnyH_ready (rs := [5]) (by kernel_rfl) (by simp) ?_
       refine AllReadyH.cons rfl (fun K hK => ?_) (AllReadyH.nil)
       ·go_simp
        refine (DB1.out u_25 PL_25.out).mono ?_; rintro e u_26 ⟨rfl, pl_, mp_⟩
        have PL_26 := hd pl_
        have PR_26 := hd (PL.othl PR_25.out mp_ DIS.out)
        have TW_26 := hd (TW_25.out.left mp_)
        have R_A_20_26 := hd (R_A_20_25.out.mp mp_ LT5.out.1 LT5.out.2.1)
        have R_A_25_26 := hd (R_A_25_25.out.mp mp_ LT5.out.1 LT5.out.2.1)
        clear pl_ mp_
        (try go_simp)
        refine hK.out _ _ TW_26.out (fun _ => ?_)
        clear hK K
        refine wpAnyH_ready (rs := [8]) (by kernel_rfl) (by simp) (AllReadyH.cons rfl (fun K hK => ?_) AllReadyH.nil)
        rw [if_pos (by rfl)]
        refine wp_store_row 41 _ _ rfl _ #[.int .i64 yae, .string yav, .int .u64 (yad : Int)] rfl rfl _ _ R_A_25_26.out.1 (by kernel_rfl) rfl ONEya.out ?_
        have TW_27 := hd (TW_26.out.sr HS5.out R_A_25_26.out.2 (rwp yae yav yad))
        have PL_27 := hd (PL.srl PL_26.out LT5.out R_A_25_26.out.2 (rwp yae yav yad))
        have PR_27 := hd (PL.srr PR_26.out LT5.out R_A_25_26.out.2 (rwp yae yav yad))
        have R_A_20_27 := hd (R_A_20_26.out.other NE_A_20_A_25.out (rwp yae yav yad))
        have R_A_25_27 := hd (R_A_25_26.out.same ⟨yae, yav, yad⟩)
        refine hK.out _ _ TW_27.out (fun _ => ?_)
        clear hK K
        refine wpAnyH_ready (rs := [9]) (by kernel_rfl) (by simp) (AllReadyH.cons rfl (fun K hK => ?_) AllReadyH.nil)
        rw [if_pos (by rfl)]
        refine wp_store_row 41 _ _ rfl _ #[.int .i64 ybe, .string ybv, .int .u64 (ybd : Int)] rfl rfl _ _ R_A_20_27.out.1 (by kernel_rfl) rfl ONEyb.out ?_
        have TW_28 := hd (TW_27.out.sr HS5.out R_A_20_27.out.2 (rwp ybe ybv ybd))
        have PL_28 := hd (PL.srl PL_27.out LT5.out R_A_20_27.out.2 (rwp ybe ybv ybd))
        have PR_28 := hd (PL.srr PR_27.out LT5.out R_A_20_27.out.2 (rwp ybe ybv ybd))
        have R_A_20_28 := hd (R_A_20_27.out.same ⟨ybe, ybv, ybd⟩)
        have R_A_25_28 := hd (R_A_25_27.out.other (Ne.symm NE_A_20_A_25.out) (rwp ybe ybv ybd))
        refine hK.out _ _ TW_28.out (fun _ => ?_)
        clear hK K
        refine wpAnyH_done (by kernel_rfl) ?_ _
        have fin_ : Fl ((u_26.setRow A_25 (rwp yae yav yad)).setRow A_20 (rwp ybe ybv ybd)) A_25 A_20 := HFl.out _ _ _ PL_28.out PR_28.out TW_28.out R_A_25_28.out R_A_20_28.out
        obtain ⟨Z, hZ⟩ : ∃ Z, Z = ((u_26.setRow A_25 #[.int .i64 yae, .string yav, .int .u64 (yad : Int)]).setRow A_20 #[.int .i64 ybe, .string ybv, .int .u64 (ybd : Int)]) := ⟨_, rfl⟩
        rw [← hZ] at ⊢
        change Fl _ _ _ at fin_
        rw [show ((u_26.setRow A_25 (rwp yae yav yad)).setRow A_20 (rwp ybe ybv ybd)) = Z from hZ.symm] at fin_
        clear hZ
        exact key Z A_25 A_20 fin_
    ·go_simp
     obtain ⟨u_29, hu_⟩ : ∃ x, x = Wd.alloc (.cells #[.int .i64 0, .string ⟨#[]⟩, .int .u64 0] 41) := ⟨_, rfl⟩
     obtain ⟨A_29, hA_⟩ : ∃ A, A = Wd.heap.size := ⟨_, rfl⟩
     have b_ := belA hu_
     have m_ := Mp.of_below (p := p) (b := b) b_
     have TW_29 := hd (TWd.out.left m_)
     have PL_29 := hd (PLd.out.below b_)
     have PR_29 := hd (PRd.out.below b_)
     have R_A_29_29 : Hid (Row5 S5 u_29 A_29 ⟨0, ⟨#[]⟩, 0⟩) := hd (by rw [hu_, hA_]; exact Row5.new ⟨0, ⟨#[]⟩, 0⟩ (by have := TWd.out.size; have := HS5.out; omega))
     rw [← hu_, ← hA_]
     refine hK.out _ _ TW_29.out (fun _ => ?_)
     clear hK K hu_ hA_ b_ m_
     refine wpAnyH_ready (rs := [2, 7]) (by kernel_rfl) (by simp) ?_
     refine AllReadyH.cons rfl (fun K hK => ?_) (AllReadyH.cons rfl (fun K hK => ?_) (AllReadyH.nil))
     ·go_simp
      refine (DA1.out u_29 PL_29.out).mono ?_; rintro e u_30 ⟨rfl, pl_, mp_⟩
      have PL_30 := hd pl_
      have PR_30 := hd (PL.othl PR_29.out mp_ DIS.out)
      have TW_30 := hd (TW_29.out.left mp_)
      have R_A_29_30 := hd (R_A_29_29.out.mp mp_ LT5.out.1 LT5.out.2.1)
      clear pl_ mp_
      (try go_simp)
      refine hK.out _ _ TW_30.out (fun _ => ?_)
      clear hK K
      refine wpAnyH_ready (rs := [5, 7]) (by kernel_rfl) (by simp) ?_
      refine AllReadyH.cons rfl (fun K hK => ?_) (AllReadyH.cons rfl (fun K hK => ?_) (AllReadyH.nil))
      ·go_simp
       refine (DB1.out u_30 PL_30.out).mono ?_; rintro e u_31 ⟨rfl, pl_, mp_⟩
       have PL_31 := hd pl_
       have PR_31 := hd (PL.othl PR_30.out mp_ DIS.out)
       have TW_31 := hd (TW_30.out.left mp_)
       have R_A_29_31 := hd (R_A_29_30.out.mp mp_ LT5.out.1 LT5.out.2.1)
       clear pl_ mp_
       (try go_simp)
       refine hK.out _ _ TW_31.out (fun _ => ?_)
       clear hK K
       refine wpAnyH_ready (rs := [7]) (by kernel_rfl) (by simp) ?_
       refine AllReadyH.cons rfl (fun K hK => ?_) (AllReadyH.nil)
       ·go_simp
        obtain ⟨u_32, hu_⟩ : ∃ x, x = u_31.alloc (.cells #[.int .i64 0, .string ⟨#[]⟩, .int .u64 0] 41) := ⟨_, rfl⟩
        obtain ⟨A_32, hA_⟩ : ∃ A, A = u_31.heap.size := ⟨_, rfl⟩
        have b_ := belA hu_
        have m_ := Mp.of_below (p := p) (b := b) b_
        have TW_32 := hd (TW_31.out.left m_)
        have PL_32 := hd (PL_31.out.below b_)
        have PR_32 := hd (PR_31.out.below b_)
        have R_A_32_32 : Hid (Row5 S5 u_32 A_32 ⟨0, ⟨#[]⟩, 0⟩) := hd (by rw [hu_, hA_]; exact Row5.new ⟨0, ⟨#[]⟩, 0⟩ (by have := TW_31.out.size; have := HS5.out; omega))
        have R_A_29_32 := hd (R_A_29_31.out.mp m_ LT5.out.1 LT5.out.2.1)
        have NE_A_29_A_32 : Hid (A_29 ≠ A_32) := hd (by have := lt_of_rowR R_A_29_31.out.1; omega)
        rw [← hu_, ← hA_]
        refine hK.out _ _ TW_32.out (fun _ => ?_)
        clear hK K hu_ hA_ b_ m_
        refine wpAnyH_ready (rs := [8]) (by kernel_rfl) (by simp) (AllReadyH.cons rfl (fun K hK => ?_) AllReadyH.nil)
        rw [if_pos (by rfl)]
        refine wp_store_row 41 _ _ rfl _ #[.int .i64 yae, .string yav, .int .u64 (yad : Int)] rfl rfl _ _ R_A_29_32.out.1 (by kernel_rfl) rfl ONEya.out ?_
        have TW_33 := hd (TW_32.out.sr HS5.out R_A_29_32.out.2 (rwp yae yav yad))
        have PL_33 := hd (PL.srl PL_32.out LT5.out R_A_29_32.out.2 (rwp yae yav yad))
        have PR_33 := hd (PL.srr PR_32.out LT5.out R_A_29_32.out.2 (rwp yae yav yad))
        have R_A_29_33 := hd (R_A_29_32.out.same ⟨yae, yav, yad⟩)
        have R_A_32_33 := hd (R_A_32_32.out.other (Ne.symm NE_A_29_A_32.out) (rwp yae yav yad))
        refine hK.out _ _ TW_33.out (fun _ => ?_)
        clear hK K
        refine wpAnyH_ready (rs := [9]) (by kernel_rfl) (by simp) (AllReadyH.cons rfl (fun K hK => ?_) AllReadyH.nil)
        rw [if_pos (by rfl)]
        refine wp_store_row 41 _ _ rfl _ #[.int .i64 ybe, .string ybv, .int .u64 (ybd : Int)] rfl rfl _ _ R_A_32_33.out.1 (by kernel_rfl) rfl ONEyb.out ?_
        have TW_34 := hd (TW_33.out.sr HS5.out R_A_32_33.out.2 (rwp ybe ybv ybd))
        have PL_34 := hd (PL.srl PL_33.out LT5.out R_A_32_33.out.2 (rwp ybe ybv ybd))
        have PR_34 := hd (PL.srr PR_33.out LT5.out R_A_32_33.out.2 (rwp ybe ybv ybd))
        have R_A_29_34 := hd (R_A_29_33.out.other NE_A_29_A_32.out (rwp ybe ybv ybd))
        have R_A_32_34 := hd (R_A_32_33.out.same ⟨ybe, ybv, ybd⟩)
        refine hK.out _ _ TW_34.out (fun _ => ?_)
        clear hK K
        refine wpAnyH_done (by kernel_rfl) ?_ _
        have fin_ : Fl ((u_32.setRow A_29 (rwp yae yav yad)).setRow A_32 (rwp ybe ybv ybd)) A_29 A_32 := HFl.out _ _ _ PL_34.out PR_34.out TW_34.out R_A_29_34.out R_A_32_34.out
        obtain ⟨Z, hZ⟩ : ∃ Z, Z = ((u_32.setRow A_29 #[.int .i64 yae, .string yav, .int .u64 (yad : Int)]).setRow A_32 #[.int .i64 ybe, .string ybv, .int .u64 (ybd : Int)]) := ⟨_, rfl⟩
        rw [← hZ] at ⊢
        change Fl _ _ _ at fin_
        rw [show ((u_32.setRow A_29 (rwp yae yav yad)).setRow A_32 (rwp ybe ybv ybd)) = Z from hZ.symm] at fin_
        clear hZ
        exact key Z A_29 A_32 fin_
      ·go_simp
       obtain ⟨u_35, hu_⟩ : ∃ x, x = u_30.alloc (.cells #[.int .i64 0, .string ⟨#[]⟩, .int .u64 0] 41) := ⟨_, rfl⟩
       obtain ⟨A_35, hA_⟩ : ∃ A, A = u_30.heap.size := ⟨_, rfl⟩
       have b_ := belA hu_
       have m_ := Mp.of_below (p := p) (b := b) b_
       have TW_35 := hd (TW_30.out.left m_)
       have PL_35 := hd (PL_30.out.below b_)
       have PR_35 := hd (PR_30.out.below b_)
       have R_A_35_35 : Hid (Row5 S5 u_35 A_35 ⟨0, ⟨#[]⟩, 0⟩) := hd (by rw [hu_, hA_]; exact Row5.new ⟨0, ⟨#[]⟩, 0⟩ (by have := TW_30.out.size; have := HS5.out; omega))
       have R_A_29_35 := hd (R_A_29_30.out.mp m_ LT5.out.1 LT5.out.2.1)
       have NE_A_29_A_35 : Hid (A_29 ≠ A_35) := hd (by have := lt_of_rowR R_A_29_30.out.1; omega)
       rw [← hu_, ← hA_]
       refine hK.out _ _ TW_35.out (fun _ => ?_)
       clear hK K hu_ hA_ b_ m_
       refine wpAnyH_ready (rs := [5]) (by kernel_rfl) (by simp) ?_
       refine AllReadyH.cons rfl (fun K hK => ?_) (AllReadyH.nil)
       ·go_simp
        refine (DB1.out u_35 PL_35.out).mono ?_; rintro e u_36 ⟨rfl, pl_, mp_⟩
        have PL_36 := hd pl_
        have PR_36 := hd (PL.othl PR_35.out mp_ DIS.out)
        have TW_36 := hd (TW_35.out.left mp_)
        have R_A_29_36 := hd (R_A_29_35.out.mp mp_ LT5.out.1 LT5.out.2.1)
        have R_A_35_36 := hd (R_A_35_35.out.mp mp_ LT5.out.1 LT5.out.2.1)
        clear pl_ mp_
        (try go_simp)
        refine hK.out _ _ TW_36.out (fun _ => ?_)
        clear hK K
        refine wpAnyH_ready (rs := [8]) (by kernel_rfl) (by simp) (AllReadyH.cons rfl (fun K hK => ?_) AllReadyH.nil)
        rw [if_pos (by rfl)]
        refine wp_store_row 41 _ _ rfl _ #[.int .i64 yae, .string yav, .int .u64 (yad : Int)] rfl rfl _ _ R_A_29_36.out.1 (by kernel_rfl) rfl ONEya.out ?_
        have TW_37 := hd (TW_36.out.sr HS5.out R_A_29_36.out.2 (rwp yae yav yad))
        have PL_37 := hd (PL.srl PL_36.out LT5.out R_A_29_36.out.2 (rwp yae yav yad))
        have PR_37 := hd (PL.srr PR_36.out LT5.out R_A_29_36.out.2 (rwp yae yav yad))
        have R_A_29_37 := hd (R_A_29_36.out.same ⟨yae, yav, yad⟩)
        have R_A_35_37 := hd (R_A_35_36.out.other (Ne.symm NE_A_29_A_35.out) (rwp yae yav yad))
        refine hK.out _ _ TW_37.out (fun _ => ?_)
        clear hK K
        refine wpAnyH_ready (rs := [9]) (by kernel_rfl) (by simp) (AllReadyH.cons rfl (fun K hK => ?_) AllReadyH.nil)
        rw [if_pos (by rfl)]
        refine wp_store_row 41 _ _ rfl _ #[.int .i64 ybe, .string ybv, .int .u64 (ybd : Int)] rfl rfl _ _ R_A_35_37.out.1 (by kernel_rfl) rfl ONEyb.out ?_
        have TW_38 := hd (TW_37.out.sr HS5.out R_A_35_37.out.2 (rwp ybe ybv ybd))
        have PL_38 := hd (PL.srl PL_37.out LT5.out R_A_35_37.out.2 (rwp ybe ybv ybd))
        have PR_38 := hd (PL.srr PR_37.out LT5.out R_A_35_37.out.2 (rwp ybe ybv ybd))
        have R_A_29_38 := hd (R_A_29_37.out.other NE_A_29_A_35.out (rwp ybe ybv ybd))
        have R_A_35_38 := hd (R_A_35_37.out.same ⟨ybe, ybv, ybd⟩)
        refine hK.out _ _ TW_38.out (fun _ => ?_)
        clear hK K
        refine wpAnyH_done (by kernel_rfl) ?_ _
        have fin_ : Fl ((u_36.setRow A_29 (rwp yae yav yad)).setRow A_35 (rwp ybe ybv ybd)) A_29 A_35 := HFl.out _ _ _ PL_38.out PR_38.out TW_38.out R_A_29_38.out R_A_35_38.out
        obtain ⟨Z, hZ⟩ : ∃ Z, Z = ((u_36.setRow A_29 #[.int .i64 yae, .string yav, .int .u64 (yad : Int)]).setRow A_35 #[.int .i64 ybe, .string ybv, .int .u64 (ybd : Int)]) := ⟨_, rfl⟩
        rw [← hZ] at ⊢
        change Fl _ _ _ at fin_
        rw [show ((u_36.setRow A_29 (rwp yae yav yad)).setRow A_35 (rwp ybe ybv ybd)) = Z from hZ.symm] at fin_
        clear hZ
        exact key Z A_29 A_35 fin_
     ·go_simp
      obtain ⟨u_39, hu_⟩ : ∃ x, x = u_29.alloc (.cells #[.int .i64 0, .string ⟨#[]⟩, .int .u64 0] 41) := ⟨_, rfl⟩
      obtain ⟨A_39, hA_⟩ : ∃ A, A = u_29.heap.size := ⟨_, rfl⟩
      have b_ := belA hu_
      have m_ := Mp.of_below (p := p) (b := b) b_
      have TW_39 := hd (TW_29.out.left m_)
      have PL_39 := hd (PL_29.out.below b_)
      have PR_39 := hd (PR_29.out.below b_)
      have R_A_39_39 : Hid (Row5 S5 u_39 A_39 ⟨0, ⟨#[]⟩, 0⟩) := hd (by rw [hu_, hA_]; exact Row5.new ⟨0, ⟨#[]⟩, 0⟩ (by have := TW_29.out.size; have := HS5.out; omega))
      have R_A_29_39 := hd (R_A_29_29.out.mp m_ LT5.out.1 LT5.out.2.1)
      have NE_A_29_A_39 : Hid (A_29 ≠ A_39) := hd (by have := lt_of_rowR R_A_29_29.out.1; omega)
      rw [← hu_, ← hA_]
      refine hK.out _ _ TW_39.out (fun _ => ?_)
      clear hK K hu_ hA_ b_ m_
      refine wpAnyH_ready (rs := [2]) (by kernel_rfl) (by simp) ?_
      refine AllReadyH.cons rfl (fun K hK => ?_) (AllReadyH.nil)
      ·go_simp
       refine (DA1.out u_39 PL_39.out).mono ?_; rintro e u_40 ⟨rfl, pl_, mp_⟩
       have PL_40 := hd pl_
       have PR_40 := hd (PL.othl PR_39.out mp_ DIS.out)
       have TW_40 := hd (TW_39.out.left mp_)
       have R_A_29_40 := hd (R_A_29_39.out.mp mp_ LT5.out.1 LT5.out.2.1)
       have R_A_39_40 := hd (R_A_39_39.out.mp mp_ LT5.out.1 LT5.out.2.1)
       clear pl_ mp_
       (try go_simp)
       refine hK.out _ _ TW_40.out (fun _ => ?_)
       clear hK K
       refine wpAnyH_ready (rs := [5]) (by kernel_rfl) (by simp) ?_
       refine AllReadyH.cons rfl (fun K hK => ?_) (AllReadyH.nil)
       ·go_simp
        refine (DB1.out u_40 PL_40.out).mono ?_; rintro e u_41 ⟨rfl, pl_, mp_⟩
        have PL_41 := hd pl_
        have PR_41 := hd (PL.othl PR_40.out mp_ DIS.out)
        have TW_41 := hd (TW_40.out.left mp_)
        have R_A_29_41 := hd (R_A_29_40.out.mp mp_ LT5.out.1 LT5.out.2.1)
        have R_A_39_41 := hd (R_A_39_40.out.mp mp_ LT5.out.1 LT5.out.2.1)
        clear pl_ mp_
        (try go_simp)
        refine hK.out _ _ TW_41.out (fun _ => ?_)
        clear hK K
        refine wpAnyH_ready (rs := [8]) (by kernel_rfl) (by simp) (AllReadyH.cons rfl (fun K hK => ?_) AllReadyH.nil)
        rw [if_pos (by rfl)]
        refine wp_store_row 41 _ _ rfl _ #[.int .i64 yae, .string yav, .int .u64 (yad : Int)] rfl rfl _ _ R_A_29_41.out.1 (by kernel_rfl) rfl ONEya.out ?_
        have TW_42 := hd (TW_41.out.sr HS5.out R_A_29_41.out.2 (rwp yae yav yad))
        have PL_42 := hd (PL.srl PL_41.out LT5.out R_A_29_41.out.2 (rwp yae yav yad))
        have PR_42 := hd (PL.srr PR_41.out LT5.out R_A_29_41.out.2 (rwp yae yav yad))
        have R_A_29_42 := hd (R_A_29_41.out.same ⟨yae, yav, yad⟩)
        have R_A_39_42 := hd (R_A_39_41.out.other (Ne.symm NE_A_29_A_39.out) (rwp yae yav yad))
        refine hK.out _ _ TW_42.out (fun _ => ?_)
        clear hK K
        refine wpAnyH_ready (rs := [9]) (by kernel_rfl) (by simp) (AllReadyH.cons rfl (fun K hK => ?_) AllReadyH.nil)
        rw [if_pos (by rfl)]
        refine wp_store_row 41 _ _ rfl _ #[.int .i64 ybe, .string ybv, .int .u64 (ybd : Int)] rfl rfl _ _ R_A_39_42.out.1 (by kernel_rfl) rfl ONEyb.out ?_
        have TW_43 := hd (TW_42.out.sr HS5.out R_A_39_42.out.2 (rwp ybe ybv ybd))
        have PL_43 := hd (PL.srl PL_42.out LT5.out R_A_39_42.out.2 (rwp ybe ybv ybd))
        have PR_43 := hd (PL.srr PR_42.out LT5.out R_A_39_42.out.2 (rwp ybe ybv ybd))
        have R_A_29_43 := hd (R_A_29_42.out.other NE_A_29_A_39.out (rwp ybe ybv ybd))
        have R_A_39_43 := hd (R_A_39_42.out.same ⟨ybe, ybv, ybd⟩)
        refine hK.out _ _ TW_43.out (fun _ => ?_)
        clear hK K
        refine wpAnyH_done (by kernel_rfl) ?_ _
        have fin_ : Fl ((u_41.setRow A_29 (rwp yae yav yad)).setRow A_39 (rwp ybe ybv ybd)) A_29 A_39 := HFl.out _ _ _ PL_43.out PR_43.out TW_43.out R_A_29_43.out R_A_39_43.out
        obtain ⟨Z, hZ⟩ : ∃ Z, Z = ((u_41.setRow A_29 #[.int .i64 yae, .string yav, .int .u64 (yad : Int)]).setRow A_39 #[.int .i64 ybe, .string ybv, .int .u64 (ybd : Int)]) := ⟨_, rfl⟩
        rw [← hZ] at ⊢
        change Fl _ _ _ at fin_
        rw [show ((u_41.setRow A_29 (rwp yae yav yad)).setRow A_39 (rwp ybe ybv ybd)) = Z from hZ.symm] at fin_
        clear hZ
        exact key Z A_29 A_39 fin_
    ·go_simp
     obtain ⟨u_44, hu_⟩ : ∃ x, x = Wd.alloc (.cells #[.int .i64 0, .string ⟨#[]⟩, .int .u64 0] 41) := ⟨_, rfl⟩
     obtain ⟨A_44, hA_⟩ : ∃ A, A = Wd.heap.size := ⟨_, rfl⟩
     have b_ := belA hu_
     have m_ := Mp.of_below (p := p) (b := b) b_
     have TW_44 := hd (TWd.out.left m_)
     have PL_44 := hd (PLd.out.below b_)
     have PR_44 := hd (PRd.out.below b_)
     have R_A_44_44 : Hid (Row5 S5 u_44 A_44 ⟨0, ⟨#[]⟩, 0⟩) := hd (by rw [hu_, hA_]; exact Row5.new ⟨0, ⟨#[]⟩, 0⟩ (by have := TWd.out.size; have := HS5.out; omega))
     rw [← hu_, ← hA_]
     refine hK.out _ _ TW_44.out (fun _ => ?_)
     clear hK K hu_ hA_ b_ m_
     refine wpAnyH_ready (rs := [2, 6]) (by kernel_rfl) (by simp) ?_
     refine AllReadyH.cons rfl (fun K hK => ?_) (AllReadyH.cons rfl (fun K hK => ?_) (AllReadyH.nil))
     ·go_simp
      refine (DA1.out u_44 PL_44.out).mono ?_; rintro e u_45 ⟨rfl, pl_, mp_⟩
      have PL_45 := hd pl_
      have PR_45 := hd (PL.othl PR_44.out mp_ DIS.out)
      have TW_45 := hd (TW_44.out.left mp_)
      have R_A_44_45 := hd (R_A_44_44.out.mp mp_ LT5.out.1 LT5.out.2.1)
      clear pl_ mp_
      (try go_simp)
      refine hK.out _ _ TW_45.out (fun _ => ?_)
      clear hK K
      refine wpAnyH_ready (rs := [5, 6]) (by kernel_rfl) (by simp) ?_
      refine AllReadyH.cons rfl (fun K hK => ?_) (AllReadyH.cons rfl (fun K hK => ?_) (AllReadyH.nil))
      ·go_simp
       refine (DB1.out u_45 PL_45.out).mono ?_; rintro e u_46 ⟨rfl, pl_, mp_⟩
       have PL_46 := hd pl_
       have PR_46 := hd (PL.othl PR_45.out mp_ DIS.out)
       have TW_46 := hd (TW_45.out.left mp_)
       have R_A_44_46 := hd (R_A_44_45.out.mp mp_ LT5.out.1 LT5.out.2.1)
       clear pl_ mp_
       (try go_simp)
       refine hK.out _ _ TW_46.out (fun _ => ?_)
       clear hK K
       refine wpAnyH_ready (rs := [6]) (by kernel_rfl) (by simp) ?_
       refine AllReadyH.cons rfl (fun K hK => ?_) (AllReadyH.nil)
       ·go_simp
        obtain ⟨u_47, hu_⟩ : ∃ x, x = u_46.alloc (.cells #[.int .i64 0, .string ⟨#[]⟩, .int .u64 0] 41) := ⟨_, rfl⟩
        obtain ⟨A_47, hA_⟩ : ∃ A, A = u_46.heap.size := ⟨_, rfl⟩
        have b_ := belA hu_
        have m_ := Mp.of_below (p := p) (b := b) b_
        have TW_47 := hd (TW_46.out.left m_)
        have PL_47 := hd (PL_46.out.below b_)
        have PR_47 := hd (PR_46.out.below b_)
        have R_A_47_47 : Hid (Row5 S5 u_47 A_47 ⟨0, ⟨#[]⟩, 0⟩) := hd (by rw [hu_, hA_]; exact Row5.new ⟨0, ⟨#[]⟩, 0⟩ (by have := TW_46.out.size; have := HS5.out; omega))
        have R_A_44_47 := hd (R_A_44_46.out.mp m_ LT5.out.1 LT5.out.2.1)
        have NE_A_44_A_47 : Hid (A_44 ≠ A_47) := hd (by have := lt_of_rowR R_A_44_46.out.1; omega)
        rw [← hu_, ← hA_]
        refine hK.out _ _ TW_47.out (fun _ => ?_)
        clear hK K hu_ hA_ b_ m_
        refine wpAnyH_ready (rs := [8]) (by kernel_rfl) (by simp) (AllReadyH.cons rfl (fun K hK => ?_) AllReadyH.nil)
        rw [if_pos (by rfl)]
        refine wp_store_row 41 _ _ rfl _ #[.int .i64 yae, .string yav, .int .u64 (yad : Int)] rfl rfl _ _ R_A_47_47.out.1 (by kernel_rfl) rfl ONEya.out ?_
        have TW_48 := hd (TW_47.out.sr HS5.out R_A_47_47.out.2 (rwp yae yav yad))
        have PL_48 := hd (PL.srl PL_47.out LT5.out R_A_47_47.out.2 (rwp yae yav yad))
        have PR_48 := hd (PL.srr PR_47.out LT5.out R_A_47_47.out.2 (rwp yae yav yad))
        have R_A_44_48 := hd (R_A_44_47.out.other NE_A_44_A_47.out (rwp yae yav yad))
        have R_A_47_48 := hd (R_A_47_47.out.same ⟨yae, yav, yad⟩)
        refine hK.out _ _ TW_48.out (fun _ => ?_)
        clear hK K
        refine wpAnyH_ready (rs := [9]) (by kernel_rfl) (by simp) (AllReadyH.cons rfl (fun K hK => ?_) AllReadyH.nil)
        rw [if_pos (by rfl)]
        refine wp_store_row 41 _ _ rfl _ #[.int .i64 ybe, .string ybv, .int .u64 (ybd : Int)] rfl rfl _ _ R_A_44_48.out.1 (by kernel_rfl) rfl ONEyb.out ?_
        have TW_49 := hd (TW_48.out.sr HS5.out R_A_44_48.out.2 (rwp ybe ybv ybd))
        have PL_49 := hd (PL.srl PL_48.out LT5.out R_A_44_48.out.2 (rwp ybe ybv ybd))
        have PR_49 := hd (PL.srr PR_48.out LT5.out R_A_44_48.out.2 (rwp ybe ybv ybd))
        have R_A_44_49 := hd (R_A_44_48.out.same ⟨ybe, ybv, ybd⟩)
        have R_A_47_49 := hd (R_A_47_48.out.other (Ne.symm NE_A_44_A_47.out) (rwp ybe ybv ybd))
        refine hK.out _ _ TW_49.out (fun _ => ?_)
        clear hK K
        refine wpAnyH_done (by kernel_rfl) ?_ _
        have fin_ : Fl ((u_47.setRow A_47 (rwp yae yav yad)).setRow A_44 (rwp ybe ybv ybd)) A_47 A_44 := HFl.out _ _ _ PL_49.out PR_49.out TW_49.out R_A_47_49.out R_A_44_49.out
        obtain ⟨Z, hZ⟩ : ∃ Z, Z = ((u_47.setRow A_47 #[.int .i64 yae, .string yav, .int .u64 (yad : Int)]).setRow A_44 #[.int .i64 ybe, .string ybv, .int .u64 (ybd : Int)]) := ⟨_, rfl⟩
        rw [← hZ] at ⊢
        change Fl _ _ _ at fin_
        rw [show ((u_47.setRow A_47 (rwp yae yav yad)).setRow A_44 (rwp ybe ybv ybd)) = Z from hZ.symm] at fin_
        clear hZ
        exact key Z A_47 A_44 fin_
      ·go_simp
       obtain ⟨u_50, hu_⟩ : ∃ x, x = u_45.alloc (.cells #[.int .i64 0, .string ⟨#[]⟩, .int .u64 0] 41) := ⟨_, rfl⟩
       obtain ⟨A_50, hA_⟩ : ∃ A, A = u_45.heap.size := ⟨_, rfl⟩
       have b_ := belA hu_
       have m_ := Mp.of_below (p := p) (b := b) b_
       have TW_50 := hd (TW_45.out.left m_)
       have PL_50 := hd (PL_45.out.below b_)
       have PR_50 := hd (PR_45.out.below b_)
       have R_A_50_50 : Hid (Row5 S5 u_50 A_50 ⟨0, ⟨#[]⟩, 0⟩) := hd (by rw [hu_, hA_]; exact Row5.new ⟨0, ⟨#[]⟩, 0⟩ (by have := TW_45.out.size; have := HS5.out; omega))
       have R_A_44_50 := hd (R_A_44_45.out.mp m_ LT5.out.1 LT5.out.2.1)
       have NE_A_44_A_50 : Hid (A_44 ≠ A_50) := hd (by have := lt_of_rowR R_A_44_45.out.1; omega)
       rw [← hu_, ← hA_]
       refine hK.out _ _ TW_50.out (fun _ => ?_)
       clear hK K hu_ hA_ b_ m_
       refine wpAnyH_ready (rs := [5]) (by kernel_rfl) (by simp) ?_
       refine AllReadyH.cons rfl (fun K hK => ?_) (AllReadyH.nil)
       ·go_simp
        refine (DB1.out u_50 PL_50.out).mono ?_; rintro e u_51 ⟨rfl, pl_, mp_⟩
        have PL_51 := hd pl_
        have PR_51 := hd (PL.othl PR_50.out mp_ DIS.out)
        have TW_51 := hd (TW_50.out.left mp_)
        have R_A_44_51 := hd (R_A_44_50.out.mp mp_ LT5.out.1 LT5.out.2.1)
        have R_A_50_51 := hd (R_A_50_50.out.mp mp_ LT5.out.1 LT5.out.2.1)
        clear pl_ mp_
        (try go_simp)
        refine hK.out _ _ TW_51.out (fun _ => ?_)
        clear hK K
        refine wpAnyH_ready (rs := [8]) (by kernel_rfl) (by simp) (AllReadyH.cons rfl (fun K hK => ?_) AllReadyH.nil)
        rw [if_pos (by rfl)]
        refine wp_store_row 41 _ _ rfl _ #[.int .i64 yae, .string yav, .int .u64 (yad : Int)] rfl rfl _ _ R_A_50_51.out.1 (by kernel_rfl) rfl ONEya.out ?_
        have TW_52 := hd (TW_51.out.sr HS5.out R_A_50_51.out.2 (rwp yae yav yad))
        have PL_52 := hd (PL.srl PL_51.out LT5.out R_A_50_51.out.2 (rwp yae yav yad))
        have PR_52 := hd (PL.srr PR_51.out LT5.out R_A_50_51.out.2 (rwp yae yav yad))
        have R_A_44_52 := hd (R_A_44_51.out.other NE_A_44_A_50.out (rwp yae yav yad))
        have R_A_50_52 := hd (R_A_50_51.out.same ⟨yae, yav, yad⟩)
        refine hK.out _ _ TW_52.out (fun _ => ?_)
        clear hK K
        refine wpAnyH_ready (rs := [9]) (by kernel_rfl) (by simp) (AllReadyH.cons rfl (fun K hK => ?_) AllReadyH.nil)
        rw [if_pos (by rfl)]
        refine wp_store_row 41 _ _ rfl _ #[.int .i64 ybe, .string ybv, .int .u64 (ybd : Int)] rfl rfl _ _ R_A_44_52.out.1 (by kernel_rfl) rfl ONEyb.out ?_
        have TW_53 := hd (TW_52.out.sr HS5.out R_A_44_52.out.2 (rwp ybe ybv ybd))
        have PL_53 := hd (PL.srl PL_52.out LT5.out R_A_44_52.out.2 (rwp ybe ybv ybd))
        have PR_53 := hd (PL.srr PR_52.out LT5.out R_A_44_52.out.2 (rwp ybe ybv ybd))
        have R_A_44_53 := hd (R_A_44_52.out.same ⟨ybe, ybv, ybd⟩)
        have R_A_50_53 := hd (R_A_50_52.out.other (Ne.symm NE_A_44_A_50.out) (rwp ybe ybv ybd))
        refine hK.out _ _ TW_53.out (fun _ => ?_)
        clear hK K
        refine wpAnyH_done (by kernel_rfl) ?_ _
        have fin_ : Fl ((u_51.setRow A_50 (rwp yae yav yad)).setRow A_44 (rwp ybe ybv ybd)) A_50 A_44 := HFl.out _ _ _ PL_53.out PR_53.out TW_53.out R_A_50_53.out R_A_44_53.out
        obtain ⟨Z, hZ⟩ : ∃ Z, Z = ((u_51.setRow A_50 #[.int .i64 yae, .string yav, .int .u64 (yad : Int)]).setRow A_44 #[.int .i64 ybe, .string ybv, .int .u64 (ybd : Int)]) := ⟨_, rfl⟩
        rw [← hZ] at ⊢
        change Fl _ _ _ at fin_
        rw [show ((u_51.setRow A_50 (rwp yae yav yad)).setRow A_44 (rwp ybe ybv ybd)) = Z from hZ.symm] at fin_
        clear hZ
        exact key Z A_50 A_44 fin_
     ·go_simp
      obtain ⟨u_54, hu_⟩ : ∃ x, x = u_44.alloc (.cells #[.int .i64 0, .string ⟨#[]⟩, .int .u64 0] 41) := ⟨_, rfl⟩
      obtain ⟨A_54, hA_⟩ : ∃ A, A = u_44.heap.size := ⟨_, rfl⟩
      have b_ := belA hu_
      have m_ := Mp.of_below (p := p) (b := b) b_
      have TW_54 := hd (TW_44.out.left m_)
      have PL_54 := hd (PL_44.out.below b_)
      have PR_54 := hd (PR_44.out.below b_)
      have R_A_54_54 : Hid (Row5 S5 u_54 A_54 ⟨0, ⟨#[]⟩, 0⟩) := hd (by rw [hu_, hA_]; exact Row5.new ⟨0, ⟨#[]⟩, 0⟩ (by have := TW_44.out.size; have := HS5.out; omega))
      have R_A_44_54 := hd (R_A_44_44.out.mp m_ LT5.out.1 LT5.out.2.1)
      have NE_A_44_A_54 : Hid (A_44 ≠ A_54) := hd (by have := lt_of_rowR R_A_44_44.out.1; omega)
      rw [← hu_, ← hA_]
      refine hK.out _ _ TW_54.out (fun _ => ?_)
      clear hK K hu_ hA_ b_ m_
      refine wpAnyH_ready (rs := [2]) (by kernel_rfl) (by simp) ?_
      refine AllReadyH.cons rfl (fun K hK => ?_) (AllReadyH.nil)
      ·go_simp
       refine (DA1.out u_54 PL_54.out).mono ?_; rintro e u_55 ⟨rfl, pl_, mp_⟩
       have PL_55 := hd pl_
       have PR_55 := hd (PL.othl PR_54.out mp_ DIS.out)
       have TW_55 := hd (TW_54.out.left mp_)
       have R_A_44_55 := hd (R_A_44_54.out.mp mp_ LT5.out.1 LT5.out.2.1)
       have R_A_54_55 := hd (R_A_54_54.out.mp mp_ LT5.out.1 LT5.out.2.1)
       clear pl_ mp_
       (try go_simp)
       refine hK.out _ _ TW_55.out (fun _ => ?_)
       clear hK K
       refine wpAnyH_ready (rs := [5]) (by kernel_rfl) (by simp) ?_
       refine AllReadyH.cons rfl (fun K hK => ?_) (AllReadyH.nil)
       ·go_simp
        refine (DB1.out u_55 PL_55.out).mono ?_; rintro e u_56 ⟨rfl, pl_, mp_⟩
        have PL_56 := hd pl_
        have PR_56 := hd (PL.othl PR_55.out mp_ DIS.out)
        have TW_56 := hd (TW_55.out.left mp_)
        have R_A_44_56 := hd (R_A_44_55.out.mp mp_ LT5.out.1 LT5.out.2.1)
        have R_A_54_56 := hd (R_A_54_55.out.mp mp_ LT5.out.1 LT5.out.2.1)
        clear pl_ mp_
        (try go_simp)
        refine hK.out _ _ TW_56.out (fun _ => ?_)
        clear hK K
        refine wpAnyH_ready (rs := [8]) (by kernel_rfl) (by simp) (AllReadyH.cons rfl (fun K hK => ?_) AllReadyH.nil)
        rw [if_pos (by rfl)]
        refine wp_store_row 41 _ _ rfl _ #[.int .i64 yae, .string yav, .int .u64 (yad : Int)] rfl rfl _ _ R_A_54_56.out.1 (by kernel_rfl) rfl ONEya.out ?_
        have TW_57 := hd (TW_56.out.sr HS5.out R_A_54_56.out.2 (rwp yae yav yad))
        have PL_57 := hd (PL.srl PL_56.out LT5.out R_A_54_56.out.2 (rwp yae yav yad))
        have PR_57 := hd (PL.srr PR_56.out LT5.out R_A_54_56.out.2 (rwp yae yav yad))
        have R_A_44_57 := hd (R_A_44_56.out.other NE_A_44_A_54.out (rwp yae yav yad))
        have R_A_54_57 := hd (R_A_54_56.out.same ⟨yae, yav, yad⟩)
        refine hK.out _ _ TW_57.out (fun _ => ?_)
        clear hK K
        refine wpAnyH_ready (rs := [9]) (by kernel_rfl) (by simp) (AllReadyH.cons rfl (fun K hK => ?_) AllReadyH.nil)
        rw [if_pos (by rfl)]
        refine wp_store_row 41 _ _ rfl _ #[.int .i64 ybe, .string ybv, .int .u64 (ybd : Int)] rfl rfl _ _ R_A_44_57.out.1 (by kernel_rfl) rfl ONEyb.out ?_
        have TW_58 := hd (TW_57.out.sr HS5.out R_A_44_57.out.2 (rwp ybe ybv ybd))
        have PL_58 := hd (PL.srl PL_57.out LT5.out R_A_44_57.out.2 (rwp ybe ybv ybd))
        have PR_58 := hd (PL.srr PR_57.out LT5.out R_A_44_57.out.2 (rwp ybe ybv ybd))
        have R_A_44_58 := hd (R_A_44_57.out.same ⟨ybe, ybv, ybd⟩)
        have R_A_54_58 := hd (R_A_54_57.out.other (Ne.symm NE_A_44_A_54.out) (rwp ybe ybv ybd))
        refine hK.out _ _ TW_58.out (fun _ => ?_)
        clear hK K
        refine wpAnyH_done (by kernel_rfl) ?_ _
        have fin_ : Fl ((u_56.setRow A_54 (rwp yae yav yad)).setRow A_44 (rwp ybe ybv ybd)) A_54 A_44 := HFl.out _ _ _ PL_58.out PR_58.out TW_58.out R_A_54_58.out R_A_44_58.out
        obtain ⟨Z, hZ⟩ : ∃ Z, Z = ((u_56.setRow A_54 #[.int .i64 yae, .string yav, .int .u64 (yad : Int)]).setRow A_44 #[.int .i64 ybe, .string ybv, .int .u64 (ybd : Int)]) := ⟨_, rfl⟩
        rw [← hZ] at ⊢
        change Fl _ _ _ at fin_
        rw [show ((u_56.setRow A_54 (rwp yae yav yad)).setRow A_44 (rwp ybe ybv ybd)) = Z from hZ.symm] at fin_
        clear hZ
        exact key Z A_54 A_44 fin_
   intro v1 A B hf1
   rw [HFl2.out] at hf1
   obtain ⟨pl1, pr1, tw1, ra1, rb1⟩ := hf1
   have PL1 := Lib.hid pl1
   have PR1 := Lib.hid pr1
   have TW1 := Lib.hid tw1
   have RA1 := Lib.hid ra1
   have RB1 := Lib.hid rb1
   clear pl1 pr1 tw1 ra1 rb1 PLd PRd TWd
   go_wp2_with fail
   refine wp_region_held (S := fun V => Two w5 V p b p' b') (by kernel_rfl) ?_
   have hS0 : Two w5 { v1 with drawn := v1.drawn + 1 } p b p' b' := ⟨TW1.out.os, TW1.out.tape, TW1.out.output, TW1.out.size, TW1.out.block⟩
   have e0 := fun V h => (XC.out V h).1
   have e1 := fun V h => (XC.out V h).2.1
   have e2 := fun V h => (XC.out V h).2.2.1
   have e3 := fun V h => (XC.out V h).2.2.2
   have g0 := fun V h => (YC.out V h).1
   have g1 := fun V h => (YC.out V h).2.1
   have g2 := fun V h => (YC.out V h).2.2.1
   have g3 := fun V h => (YC.out V h).2.2.2
   refine wpAnyH_take (i := 0) (v := .pointer (some ⟨p', 0, none⟩)) rfl (by kernel_rfl) ?_ ?_ (fun _ _ _ h => h) (Or.inl ⟨by rfl, ?_⟩) hS0 ?_
   · kernel_rfl
   · kernel_rfl
   · intro V hV; go_simp
   refine wpAnyH_take (i := 1) (v := .agg #[.int .i64 kb, .string ib, .string vb, .float .f64 xb]) rfl (by kernel_rfl) ?_ ?_ (fun _ _ _ h => h) (Or.inl ⟨by rfl, ?_⟩) hS0 ?_
   · kernel_rfl
   · kernel_rfl
   · intro V hV; go_simp
   refine wpAnyH_take (i := 3) (v := .pointer (some ⟨p', 0, none⟩)) rfl (by kernel_rfl) ?_ ?_ (fun _ _ _ h => h) (Or.inl ⟨by rfl, ?_⟩) hS0 ?_
   · kernel_rfl
   · kernel_rfl
   · intro V hV; go_simp
   refine wpAnyH_take (i := 4) (v := .agg #[.int .i64 ka, .string ia, .string va, .float .f64 xa]) rfl (by kernel_rfl) ?_ ?_ (fun _ _ _ h => h) (Or.inl ⟨by rfl, ?_⟩) hS0 ?_
   · kernel_rfl
   · kernel_rfl
   · intro V hV; go_simp
   obtain ⟨Wd, hWd⟩ : ∃ x, x = { v1 with drawn := v1.drawn + 1 } := ⟨_, rfl⟩
   have bd : Below v1.heap.size v1 Wd := by rw [hWd]; exact ⟨rfl, rfl, rfl, Nat.le_refl _, fun _ _ => rfl⟩
   rw [← hWd]
   have PLd := Lib.hid (PL1.out.below bd)
   have PRd := Lib.hid (PR1.out.below bd)
   have TWd := Lib.hid (TW1.out.left (Mp.of_below (p := p) (b := b) bd))
   have RAd := Lib.hid (RA1.out.mp (Mp.of_below (p := p) (b := b) bd) LT5.out.1 LT5.out.2.1)
   have RBd := Lib.hid (RB1.out.mp (Mp.of_below (p := p) (b := b) bd) LT5.out.1 LT5.out.2.1)
   clear hWd hS0 bd e0 e1 e2 e3 g0 g1 g2 g3 PL1 PR1 TW1 RA1 RB1
   obtain ⟨Fr, hFr⟩ : ∃ F : World → Nat → Nat → Prop, F = fun V C D => PL V p b (m + 1 + 1) now 1000 fab ∧ PL V p' b' (m + 1 + 1) now 1000 fab ∧ Two w5 V p b p' b' ∧ Row5 S5 V A ⟨yae, yav, yad⟩ ∧ Row5 S5 V B ⟨ybe, ybv, ybd⟩ ∧ Row5 S5 V C ⟨ybe, ybv, ybd⟩ ∧ Row5 S5 V D ⟨yae, yav, yad⟩ := ⟨_, rfl⟩
   have HFr : Hid (∀ V C D, PL V p b (m + 1 + 1) now 1000 fab → PL V p' b' (m + 1 + 1) now 1000 fab → Two w5 V p b p' b' → Row5 S5 V A ⟨yae, yav, yad⟩ → Row5 S5 V B ⟨ybe, ybv, ybd⟩ → Row5 S5 V C ⟨ybe, ybv, ybd⟩ → Row5 S5 V D ⟨yae, yav, yad⟩ → Fr V C D) := Lib.hid (by rw [hFr]; exact fun V C D a b c d e f g => ⟨a, b, c, d, e, f, g⟩)
   have HFr2 := Lib.hid hFr
   clear hFr
   apply split_key (F := Fr)
   ·intro key
    refine wpAnyH_ready (rs := [2, 6, 7]) (by kernel_rfl) (by simp) ?_
    refine AllReadyH.cons rfl (fun K hK => ?_) (AllReadyH.cons rfl (fun K hK => ?_) (AllReadyH.cons rfl (fun K hK => ?_) (AllReadyH.nil)))
    ·go_simp
     refine (DB2.out Wd PRd.out).mono ?_; rintro e u_59 ⟨rfl, pl_, mp_⟩
     have PR_59 := hd pl_
     have PL_59 := hd (PL.othr PLd.out mp_ DIS.out)
     have TW_59 := hd (TWd.out.right mp_)
     have R_A_59 := hd (RAd.out.mp mp_ LT5.out.2.2.1 LT5.out.2.2.2)
     have R_B_59 := hd (RBd.out.mp mp_ LT5.out.2.2.1 LT5.out.2.2.2)
     clear pl_ mp_
     (try go_simp)
     refine hK.out _ _ TW_59.out (fun _ => ?_)
     clear hK K
     refine wpAnyH_ready (rs := [5, 6, 7]) (by kernel_rfl) (by simp) ?_
     refine AllReadyH.cons rfl (fun K hK => ?_) (AllReadyH.cons rfl (fun K hK => ?_) (AllReadyH.cons rfl (fun K hK => ?_) (AllReadyH.nil)))
     ·go_simp
      refine (DA2.out u_59 PR_59.out).mono ?_; rintro e u_60 ⟨rfl, pl_, mp_⟩
      have PR_60 := hd pl_
      have PL_60 := hd (PL.othr PL_59.out mp_ DIS.out)
      have TW_60 := hd (TW_59.out.right mp_)
      have R_A_60 := hd (R_A_59.out.mp mp_ LT5.out.2.2.1 LT5.out.2.2.2)
      have R_B_60 := hd (R_B_59.out.mp mp_ LT5.out.2.2.1 LT5.out.2.2.2)
      clear pl_ mp_
      (try go_simp)
      refine hK.out _ _ TW_60.out (fun _ => ?_)
      clear hK K
      refine wpAnyH_ready (rs := [6, 7]) (by kernel_rfl) (by simp) ?_
      refine AllReadyH.cons rfl (fun K hK => ?_) (AllReadyH.cons rfl (fun K hK => ?_) (AllReadyH.nil))
      ·go_simp
       obtain ⟨u_61, hu_⟩ : ∃ x, x = u_60.alloc (.cells #[.int .i64 0, .string ⟨#[]⟩, .int .u64 0] 41) := ⟨_, rfl⟩
       obtain ⟨A_61, hA_⟩ : ∃ A, A = u_60.heap.size := ⟨_, rfl⟩
       have b_ := belA hu_
       have m_ := Mp.of_below (p := p) (b := b) b_
       have TW_61 := hd (TW_60.out.left m_)
       have PL_61 := hd (PL_60.out.below b_)
       have PR_61 := hd (PR_60.out.below b_)
       have R_A_61_61 : Hid (Row5 S5 u_61 A_61 ⟨0, ⟨#[]⟩, 0⟩) := hd (by rw [hu_, hA_]; exact Row5.new ⟨0, ⟨#[]⟩, 0⟩ (by have := TW_60.out.size; have := HS5.out; omega))
       have R_A_61 := hd (R_A_60.out.mp m_ LT5.out.1 LT5.out.2.1)
       have NE_A_A_61 : Hid (A ≠ A_61) := hd (by have := lt_of_rowR R_A_60.out.1; omega)
       have R_B_61 := hd (R_B_60.out.mp m_ LT5.out.1 LT5.out.2.1)
       have NE_B_A_61 : Hid (B ≠ A_61) := hd (by have := lt_of_rowR R_B_60.out.1; omega)
       rw [← hu_, ← hA_]
       refine hK.out _ _ TW_61.out (fun _ => ?_)
       clear hK K hu_ hA_ b_ m_
       refine wpAnyH_ready (rs := [7]) (by kernel_rfl) (by simp) ?_
       refine AllReadyH.cons rfl (fun K hK => ?_) (AllReadyH.nil)
       ·go_simp
        obtain ⟨u_62, hu_⟩ : ∃ x, x = u_61.alloc (.cells #[.int .i64 0, .string ⟨#[]⟩, .int .u64 0] 41) := ⟨_, rfl⟩
        obtain ⟨A_62, hA_⟩ : ∃ A, A = u_61.heap.size := ⟨_, rfl⟩
        have b_ := belA hu_
        have m_ := Mp.of_below (p := p) (b := b) b_
        have TW_62 := hd (TW_61.out.left m_)
        have PL_62 := hd (PL_61.out.below b_)
        have PR_62 := hd (PR_61.out.below b_)
        have R_A_62_62 : Hid (Row5 S5 u_62 A_62 ⟨0, ⟨#[]⟩, 0⟩) := hd (by rw [hu_, hA_]; exact Row5.new ⟨0, ⟨#[]⟩, 0⟩ (by have := TW_61.out.size; have := HS5.out; omega))
        have R_A_62 := hd (R_A_61.out.mp m_ LT5.out.1 LT5.out.2.1)
        have NE_A_A_62 : Hid (A ≠ A_62) := hd (by have := lt_of_rowR R_A_61.out.1; omega)
        have R_B_62 := hd (R_B_61.out.mp m_ LT5.out.1 LT5.out.2.1)
        have NE_B_A_62 : Hid (B ≠ A_62) := hd (by have := lt_of_rowR R_B_61.out.1; omega)
        have R_A_61_62 := hd (R_A_61_61.out.mp m_ LT5.out.1 LT5.out.2.1)
        have NE_A_61_A_62 : Hid (A_61 ≠ A_62) := hd (by have := lt_of_rowR R_A_61_61.out.1; omega)
        rw [← hu_, ← hA_]
        refine hK.out _ _ TW_62.out (fun _ => ?_)
        clear hK K hu_ hA_ b_ m_
        refine wpAnyH_ready (rs := [8]) (by kernel_rfl) (by simp) (AllReadyH.cons rfl (fun K hK => ?_) AllReadyH.nil)
        rw [if_pos (by rfl)]
        refine wp_store_row 41 _ _ rfl _ #[.int .i64 ybe, .string ybv, .int .u64 (ybd : Int)] rfl rfl _ _ R_A_61_62.out.1 (by kernel_rfl) rfl ONEyb.out ?_
        have TW_63 := hd (TW_62.out.sr HS5.out R_A_61_62.out.2 (rwp ybe ybv ybd))
        have PL_63 := hd (PL.srl PL_62.out LT5.out R_A_61_62.out.2 (rwp ybe ybv ybd))
        have PR_63 := hd (PL.srr PR_62.out LT5.out R_A_61_62.out.2 (rwp ybe ybv ybd))
        have R_A_63 := hd (R_A_62.out.other NE_A_A_61.out (rwp ybe ybv ybd))
        have R_B_63 := hd (R_B_62.out.other NE_B_A_61.out (rwp ybe ybv ybd))
        have R_A_61_63 := hd (R_A_61_62.out.same ⟨ybe, ybv, ybd⟩)
        have R_A_62_63 := hd (R_A_62_62.out.other (Ne.symm NE_A_61_A_62.out) (rwp ybe ybv ybd))
        refine hK.out _ _ TW_63.out (fun _ => ?_)
        clear hK K
        refine wpAnyH_ready (rs := [9]) (by kernel_rfl) (by simp) (AllReadyH.cons rfl (fun K hK => ?_) AllReadyH.nil)
        rw [if_pos (by rfl)]
        refine wp_store_row 41 _ _ rfl _ #[.int .i64 yae, .string yav, .int .u64 (yad : Int)] rfl rfl _ _ R_A_62_63.out.1 (by kernel_rfl) rfl ONEya.out ?_
        have TW_64 := hd (TW_63.out.sr HS5.out R_A_62_63.out.2 (rwp yae yav yad))
        have PL_64 := hd (PL.srl PL_63.out LT5.out R_A_62_63.out.2 (rwp yae yav yad))
        have PR_64 := hd (PL.srr PR_63.out LT5.out R_A_62_63.out.2 (rwp yae yav yad))
        have R_A_64 := hd (R_A_63.out.other NE_A_A_62.out (rwp yae yav yad))
        have R_B_64 := hd (R_B_63.out.other NE_B_A_62.out (rwp yae yav yad))
        have R_A_61_64 := hd (R_A_61_63.out.other NE_A_61_A_62.out (rwp yae yav yad))
        have R_A_62_64 := hd (R_A_62_63.out.same ⟨yae, yav, yad⟩)
        refine hK.out _ _ TW_64.out (fun _ => ?_)
        clear hK K
        refine wpAnyH_done (by kernel_rfl) ?_ _
        have fin_ : Fr ((u_62.setRow A_61 (rwp ybe ybv ybd)).setRow A_62 (rwp yae yav yad)) A_61 A_62 := HFr.out _ _ _ PL_64.out PR_64.out TW_64.out R_A_64.out R_B_64.out R_A_61_64.out R_A_62_64.out
        obtain ⟨Z, hZ⟩ : ∃ Z, Z = ((u_62.setRow A_61 #[.int .i64 ybe, .string ybv, .int .u64 (ybd : Int)]).setRow A_62 #[.int .i64 yae, .string yav, .int .u64 (yad : Int)]) := ⟨_, rfl⟩
        rw [← hZ] at ⊢
        change Fr _ _ _ at fin_
        rw [show ((u_62.setRow A_61 (rwp ybe ybv ybd)).setRow A_62 (rwp yae yav yad)) = Z from hZ.symm] at fin_
        clear hZ
        exact key Z A_61 A_62 fin_
      ·go_simp
       obtain ⟨u_65, hu_⟩ : ∃ x, x = u_60.alloc (.cells #[.int .i64 0, .string ⟨#[]⟩, .int .u64 0] 41) := ⟨_, rfl⟩
       obtain ⟨A_65, hA_⟩ : ∃ A, A = u_60.heap.size := ⟨_, rfl⟩
       have b_ := belA hu_
       have m_ := Mp.of_below (p := p) (b := b) b_
       have TW_65 := hd (TW_60.out.left m_)
       have PL_65 := hd (PL_60.out.below b_)
       have PR_65 := hd (PR_60.out.below b_)
       have R_A_65_65 : Hid (Row5 S5 u_65 A_65 ⟨0, ⟨#[]⟩, 0⟩) := hd (by rw [hu_, hA_]; exact Row5.new ⟨0, ⟨#[]⟩, 0⟩ (by have := TW_60.out.size; have := HS5.out; omega))
       have R_A_65 := hd (R_A_60.out.mp m_ LT5.out.1 LT5.out.2.1)
       have NE_A_A_65 : Hid (A ≠ A_65) := hd (by have := lt_of_rowR R_A_60.out.1; omega)
       have R_B_65 := hd (R_B_60.out.mp m_ LT5.out.1 LT5.out.2.1)
       have NE_B_A_65 : Hid (B ≠ A_65) := hd (by have := lt_of_rowR R_B_60.out.1; omega)
       rw [← hu_, ← hA_]
       refine hK.out _ _ TW_65.out (fun _ => ?_)
       clear hK K hu_ hA_ b_ m_
       refine wpAnyH_ready (rs := [6]) (by kernel_rfl) (by simp) ?_
       refine AllReadyH.cons rfl (fun K hK => ?_) (AllReadyH.nil)
       ·go_simp
        obtain ⟨u_66, hu_⟩ : ∃ x, x = u_65.alloc (.cells #[.int .i64 0, .string ⟨#[]⟩, .int .u64 0] 41) := ⟨_, rfl⟩
        obtain ⟨A_66, hA_⟩ : ∃ A, A = u_65.heap.size := ⟨_, rfl⟩
        have b_ := belA hu_
        have m_ := Mp.of_below (p := p) (b := b) b_
        have TW_66 := hd (TW_65.out.left m_)
        have PL_66 := hd (PL_65.out.below b_)
        have PR_66 := hd (PR_65.out.below b_)
        have R_A_66_66 : Hid (Row5 S5 u_66 A_66 ⟨0, ⟨#[]⟩, 0⟩) := hd (by rw [hu_, hA_]; exact Row5.new ⟨0, ⟨#[]⟩, 0⟩ (by have := TW_65.out.size; have := HS5.out; omega))
        have R_A_66 := hd (R_A_65.out.mp m_ LT5.out.1 LT5.out.2.1)
        have NE_A_A_66 : Hid (A ≠ A_66) := hd (by have := lt_of_rowR R_A_65.out.1; omega)
        have R_B_66 := hd (R_B_65.out.mp m_ LT5.out.1 LT5.out.2.1)
        have NE_B_A_66 : Hid (B ≠ A_66) := hd (by have := lt_of_rowR R_B_65.out.1; omega)
        have R_A_65_66 := hd (R_A_65_65.out.mp m_ LT5.out.1 LT5.out.2.1)
        have NE_A_65_A_66 : Hid (A_65 ≠ A_66) := hd (by have := lt_of_rowR R_A_65_65.out.1; omega)
        rw [← hu_, ← hA_]
        refine hK.out _ _ TW_66.out (fun _ => ?_)
        clear hK K hu_ hA_ b_ m_
        refine wpAnyH_ready (rs := [8]) (by kernel_rfl) (by simp) (AllReadyH.cons rfl (fun K hK => ?_) AllReadyH.nil)
        rw [if_pos (by rfl)]
        refine wp_store_row 41 _ _ rfl _ #[.int .i64 ybe, .string ybv, .int .u64 (ybd : Int)] rfl rfl _ _ R_A_66_66.out.1 (by kernel_rfl) rfl ONEyb.out ?_
        have TW_67 := hd (TW_66.out.sr HS5.out R_A_66_66.out.2 (rwp ybe ybv ybd))
        have PL_67 := hd (PL.srl PL_66.out LT5.out R_A_66_66.out.2 (rwp ybe ybv ybd))
        have PR_67 := hd (PL.srr PR_66.out LT5.out R_A_66_66.out.2 (rwp ybe ybv ybd))
        have R_A_67 := hd (R_A_66.out.other NE_A_A_66.out (rwp ybe ybv ybd))
        have R_B_67 := hd (R_B_66.out.other NE_B_A_66.out (rwp ybe ybv ybd))
        have R_A_65_67 := hd (R_A_65_66.out.other NE_A_65_A_66.out (rwp ybe ybv ybd))
        have R_A_66_67 := hd (R_A_66_66.out.same ⟨ybe, ybv, ybd⟩)
        refine hK.out _ _ TW_67.out (fun _ => ?_)
        clear hK K
        refine wpAnyH_ready (rs := [9]) (by kernel_rfl) (by simp) (AllReadyH.cons rfl (fun K hK => ?_) AllReadyH.nil)
        rw [if_pos (by rfl)]
        refine wp_store_row 41 _ _ rfl _ #[.int .i64 yae, .string yav, .int .u64 (yad : Int)] rfl rfl _ _ R_A_65_67.out.1 (by kernel_rfl) rfl ONEya.out ?_
        have TW_68 := hd (TW_67.out.sr HS5.out R_A_65_67.out.2 (rwp yae yav yad))
        have PL_68 := hd (PL.srl PL_67.out LT5.out R_A_65_67.out.2 (rwp yae yav yad))
        have PR_68 := hd (PL.srr PR_67.out LT5.out R_A_65_67.out.2 (rwp yae yav yad))
        have R_A_68 := hd (R_A_67.out.other NE_A_A_65.out (rwp yae yav yad))
        have R_B_68 := hd (R_B_67.out.other NE_B_A_65.out (rwp yae yav yad))
        have R_A_65_68 := hd (R_A_65_67.out.same ⟨yae, yav, yad⟩)
        have R_A_66_68 := hd (R_A_66_67.out.other (Ne.symm NE_A_65_A_66.out) (rwp yae yav yad))
        refine hK.out _ _ TW_68.out (fun _ => ?_)
        clear hK K
        refine wpAnyH_done (by kernel_rfl) ?_ _
        have fin_ : Fr ((u_66.setRow A_66 (rwp ybe ybv ybd)).setRow A_65 (rwp yae yav yad)) A_66 A_65 := HFr.out _ _ _ PL_68.out PR_68.out TW_68.out R_A_68.out R_B_68.out R_A_66_68.out R_A_65_68.out
        obtain ⟨Z, hZ⟩ : ∃ Z, Z = ((u_66.setRow A_66 #[.int .i64 ybe, .string ybv, .int .u64 (ybd : Int)]).setRow A_65 #[.int .i64 yae, .string yav, .int .u64 (yad : Int)]) := ⟨_, rfl⟩
        rw [← hZ] at ⊢
        change Fr _ _ _ at fin_
        rw [show ((u_66.setRow A_66 (rwp ybe ybv ybd)).setRow A_65 (rwp yae yav yad)) = Z from hZ.symm] at fin_
        clear hZ
        exact key Z A_66 A_65 fin_
     ·go_simp
      obtain ⟨u_69, hu_⟩ : ∃ x, x = u_59.alloc (.cells #[.int .i64 0, .string ⟨#[]⟩, .int .u64 0] 41) := ⟨_, rfl⟩
      obtain ⟨A_69, hA_⟩ : ∃ A, A = u_59.heap.size := ⟨_, rfl⟩
      have b_ := belA hu_
      have m_ := Mp.of_below (p := p) (b := b) b_
      have TW_69 := hd (TW_59.out.left m_)
      have PL_69 := hd (PL_59.out.below b_)
      have PR_69 := hd (PR_59.out.below b_)
      have R_A_69_69 : Hid (Row5 S5 u_69 A_69 ⟨0, ⟨#[]⟩, 0⟩) := hd (by rw [hu_, hA_]; exact Row5.new ⟨0, ⟨#[]⟩, 0⟩ (by have := TW_59.out.size; have := HS5.out; omega))
      have R_A_69 := hd (R_A_59.out.mp m_ LT5.out.1 LT5.out.2.1)
      have NE_A_A_69 : Hid (A ≠ A_69) := hd (by have := lt_of_rowR R_A_59.out.1; omega)
      have R_B_69 := hd (R_B_59.out.mp m_ LT5.out.1 LT5.out.2.1)
      have NE_B_A_69 : Hid (B ≠ A_69) := hd (by have := lt_of_rowR R_B_59.out.1; omega)
      rw [← hu_, ← hA_]
      refine hK.out _ _ TW_69.out (fun _ => ?_)
      clear hK K hu_ hA_ b_ m_
      refine wpAnyH_ready (rs := [5, 7]) (by kernel_rfl) (by simp) ?_
      refine AllReadyH.cons rfl (fun K hK => ?_) (AllReadyH.cons rfl (fun K hK => ?_) (AllReadyH.nil))
      ·go_simp
       refine (DA2.out u_69 PR_69.out).mono ?_; rintro e u_70 ⟨rfl, pl_, mp_⟩
       have PR_70 := hd pl_
       have PL_70 := hd (PL.othr PL_69.out mp_ DIS.out)
       have TW_70 := hd (TW_69.out.right mp_)
       have R_A_70 := hd (R_A_69.out.mp mp_ LT5.out.2.2.1 LT5.out.2.2.2)
       have R_B_70 := hd (R_B_69.out.mp mp_ LT5.out.2.2.1 LT5.out.2.2.2)
       have R_A_69_70 := hd (R_A_69_69.out.mp mp_ LT5.out.2.2.1 LT5.out.2.2.2)
       clear pl_ mp_
       (try go_simp)
       refine hK.out _ _ TW_70.out (fun _ => ?_)
       clear hK K
       refine wpAnyH_ready (rs := [7]) (by kernel_rfl) (by simp) ?_
       refine AllReadyH.cons rfl (fun K hK => ?_) (AllReadyH.nil)
       ·go_simp
        obtain ⟨u_71, hu_⟩ : ∃ x, x = u_70.alloc (.cells #[.int .i64 0, .string ⟨#[]⟩, .int .u64 0] 41) := ⟨_, rfl⟩
        obtain ⟨A_71, hA_⟩ : ∃ A, A = u_70.heap.size := ⟨_, rfl⟩
        have b_ := belA hu_
        have m_ := Mp.of_below (p := p) (b := b) b_
        have TW_71 := hd (TW_70.out.left m_)
        have PL_71 := hd (PL_70.out.below b_)
        have PR_71 := hd (PR_70.out.below b_)
        have R_A_71_71 : Hid (Row5 S5 u_71 A_71 ⟨0, ⟨#[]⟩, 0⟩) := hd (by rw [hu_, hA_]; exact Row5.new ⟨0, ⟨#[]⟩, 0⟩ (by have := TW_70.out.size; have := HS5.out; omega))
        have R_A_71 := hd (R_A_70.out.mp m_ LT5.out.1 LT5.out.2.1)
        have NE_A_A_71 : Hid (A ≠ A_71) := hd (by have := lt_of_rowR R_A_70.out.1; omega)
        have R_B_71 := hd (R_B_70.out.mp m_ LT5.out.1 LT5.out.2.1)
        have NE_B_A_71 : Hid (B ≠ A_71) := hd (by have := lt_of_rowR R_B_70.out.1; omega)
        have R_A_69_71 := hd (R_A_69_70.out.mp m_ LT5.out.1 LT5.out.2.1)
        have NE_A_69_A_71 : Hid (A_69 ≠ A_71) := hd (by have := lt_of_rowR R_A_69_70.out.1; omega)
        rw [← hu_, ← hA_]
        refine hK.out _ _ TW_71.out (fun _ => ?_)
        clear hK K hu_ hA_ b_ m_
        refine wpAnyH_ready (rs := [8]) (by kernel_rfl) (by simp) (AllReadyH.cons rfl (fun K hK => ?_) AllReadyH.nil)
        rw [if_pos (by rfl)]
        refine wp_store_row 41 _ _ rfl _ #[.int .i64 ybe, .string ybv, .int .u64 (ybd : Int)] rfl rfl _ _ R_A_69_71.out.1 (by kernel_rfl) rfl ONEyb.out ?_
        have TW_72 := hd (TW_71.out.sr HS5.out R_A_69_71.out.2 (rwp ybe ybv ybd))
        have PL_72 := hd (PL.srl PL_71.out LT5.out R_A_69_71.out.2 (rwp ybe ybv ybd))
        have PR_72 := hd (PL.srr PR_71.out LT5.out R_A_69_71.out.2 (rwp ybe ybv ybd))
        have R_A_72 := hd (R_A_71.out.other NE_A_A_69.out (rwp ybe ybv ybd))
        have R_B_72 := hd (R_B_71.out.other NE_B_A_69.out (rwp ybe ybv ybd))
        have R_A_69_72 := hd (R_A_69_71.out.same ⟨ybe, ybv, ybd⟩)
        have R_A_71_72 := hd (R_A_71_71.out.other (Ne.symm NE_A_69_A_71.out) (rwp ybe ybv ybd))
        refine hK.out _ _ TW_72.out (fun _ => ?_)
        clear hK K
        refine wpAnyH_ready (rs := [9]) (by kernel_rfl) (by simp) (AllReadyH.cons rfl (fun K hK => ?_) AllReadyH.nil)
        rw [if_pos (by rfl)]
        refine wp_store_row 41 _ _ rfl _ #[.int .i64 yae, .string yav, .int .u64 (yad : Int)] rfl rfl _ _ R_A_71_72.out.1 (by kernel_rfl) rfl ONEya.out ?_
        have TW_73 := hd (TW_72.out.sr HS5.out R_A_71_72.out.2 (rwp yae yav yad))
        have PL_73 := hd (PL.srl PL_72.out LT5.out R_A_71_72.out.2 (rwp yae yav yad))
        have PR_73 := hd (PL.srr PR_72.out LT5.out R_A_71_72.out.2 (rwp yae yav yad))
        have R_A_73 := hd (R_A_72.out.other NE_A_A_71.out (rwp yae yav yad))
        have R_B_73 := hd (R_B_72.out.other NE_B_A_71.out (rwp yae yav yad))
        have R_A_69_73 := hd (R_A_69_72.out.other NE_A_69_A_71.out (rwp yae yav yad))
        have R_A_71_73 := hd (R_A_71_72.out.same ⟨yae, yav, yad⟩)
        refine hK.out _ _ TW_73.out (fun _ => ?_)
        clear hK K
        refine wpAnyH_done (by kernel_rfl) ?_ _
        have fin_ : Fr ((u_71.setRow A_69 (rwp ybe ybv ybd)).setRow A_71 (rwp yae yav yad)) A_69 A_71 := HFr.out _ _ _ PL_73.out PR_73.out TW_73.out R_A_73.out R_B_73.out R_A_69_73.out R_A_71_73.out
        obtain ⟨Z, hZ⟩ : ∃ Z, Z = ((u_71.setRow A_69 #[.int .i64 ybe, .string ybv, .int .u64 (ybd : Int)]).setRow A_71 #[.int .i64 yae, .string yav, .int .u64 (yad : Int)]) := ⟨_, rfl⟩
        rw [← hZ] at ⊢
        change Fr _ _ _ at fin_
        rw [show ((u_71.setRow A_69 (rwp ybe ybv ybd)).setRow A_71 (rwp yae yav yad)) = Z from hZ.symm] at fin_
        clear hZ
        exact key Z A_69 A_71 fin_
      ·go_simp
       obtain ⟨u_74, hu_⟩ : ∃ x, x = u_69.alloc (.cells #[.int .i64 0, .string ⟨#[]⟩, .int .u64 0] 41) := ⟨_, rfl⟩
       obtain ⟨A_74, hA_⟩ : ∃ A, A = u_69.heap.size := ⟨_, rfl⟩
       have b_ := belA hu_
       have m_ := Mp.of_below (p := p) (b := b) b_
       have TW_74 := hd (TW_69.out.left m_)
       have PL_74 := hd (PL_69.out.below b_)
       have PR_74 := hd (PR_69.out.below b_)
       have R_A_74_74 : Hid (Row5 S5 u_74 A_74 ⟨0, ⟨#[]⟩, 0⟩) := hd (by rw [hu_, hA_]; exact Row5.new ⟨0, ⟨#[]⟩, 0⟩ (by have := TW_69.out.size; have := HS5.out; omega))
       have R_A_74 := hd (R_A_69.out.mp m_ LT5.out.1 LT5.out.2.1)
       have NE_A_A_74 : Hid (A ≠ A_74) := hd (by have := lt_of_rowR R_A_69.out.1; omega)
       have R_B_74 := hd (R_B_69.out.mp m_ LT5.out.1 LT5.out.2.1)
       have NE_B_A_74 : Hid (B ≠ A_74) := hd (by have := lt_of_rowR R_B_69.out.1; omega)
       have R_A_69_74 := hd (R_A_69_69.out.mp m_ LT5.out.1 LT5.out.2.1)
       have NE_A_69_A_74 : Hid (A_69 ≠ A_74) := hd (by have := lt_of_rowR R_A_69_69.out.1; omega)
       rw [← hu_, ← hA_]
       refine hK.out _ _ TW_74.out (fun _ => ?_)
       clear hK K hu_ hA_ b_ m_
       refine wpAnyH_ready (rs := [5]) (by kernel_rfl) (by simp) ?_
       refine AllReadyH.cons rfl (fun K hK => ?_) (AllReadyH.nil)
       ·go_simp
        refine (DA2.out u_74 PR_74.out).mono ?_; rintro e u_75 ⟨rfl, pl_, mp_⟩
        have PR_75 := hd pl_
        have PL_75 := hd (PL.othr PL_74.out mp_ DIS.out)
        have TW_75 := hd (TW_74.out.right mp_)
        have R_A_75 := hd (R_A_74.out.mp mp_ LT5.out.2.2.1 LT5.out.2.2.2)
        have R_B_75 := hd (R_B_74.out.mp mp_ LT5.out.2.2.1 LT5.out.2.2.2)
        have R_A_69_75 := hd (R_A_69_74.out.mp mp_ LT5.out.2.2.1 LT5.out.2.2.2)
        have R_A_74_75 := hd (R_A_74_74.out.mp mp_ LT5.out.2.2.1 LT5.out.2.2.2)
        clear pl_ mp_
        (try go_simp)
        refine hK.out _ _ TW_75.out (fun _ => ?_)
        clear hK K
        refine wpAnyH_ready (rs := [8]) (by kernel_rfl) (by simp) (AllReadyH.cons rfl (fun K hK => ?_) AllReadyH.nil)
        rw [if_pos (by rfl)]
        refine wp_store_row 41 _ _ rfl _ #[.int .i64 ybe, .string ybv, .int .u64 (ybd : Int)] rfl rfl _ _ R_A_69_75.out.1 (by kernel_rfl) rfl ONEyb.out ?_
        have TW_76 := hd (TW_75.out.sr HS5.out R_A_69_75.out.2 (rwp ybe ybv ybd))
        have PL_76 := hd (PL.srl PL_75.out LT5.out R_A_69_75.out.2 (rwp ybe ybv ybd))
        have PR_76 := hd (PL.srr PR_75.out LT5.out R_A_69_75.out.2 (rwp ybe ybv ybd))
        have R_A_76 := hd (R_A_75.out.other NE_A_A_69.out (rwp ybe ybv ybd))
        have R_B_76 := hd (R_B_75.out.other NE_B_A_69.out (rwp ybe ybv ybd))
        have R_A_69_76 := hd (R_A_69_75.out.same ⟨ybe, ybv, ybd⟩)
        have R_A_74_76 := hd (R_A_74_75.out.other (Ne.symm NE_A_69_A_74.out) (rwp ybe ybv ybd))
        refine hK.out _ _ TW_76.out (fun _ => ?_)
        clear hK K
        refine wpAnyH_ready (rs := [9]) (by kernel_rfl) (by simp) (AllReadyH.cons rfl (fun K hK => ?_) AllReadyH.nil)
        rw [if_pos (by rfl)]
        refine wp_store_row 41 _ _ rfl _ #[.int .i64 yae, .string yav, .int .u64 (yad : Int)] rfl rfl _ _ R_A_74_76.out.1 (by kernel_rfl) rfl ONEya.out ?_
        have TW_77 := hd (TW_76.out.sr HS5.out R_A_74_76.out.2 (rwp yae yav yad))
        have PL_77 := hd (PL.srl PL_76.out LT5.out R_A_74_76.out.2 (rwp yae yav yad))
        have PR_77 := hd (PL.srr PR_76.out LT5.out R_A_74_76.out.2 (rwp yae yav yad))
        have R_A_77 := hd (R_A_76.out.other NE_A_A_74.out (rwp yae yav yad))
        have R_B_77 := hd (R_B_76.out.other NE_B_A_74.out (rwp yae yav yad))
        have R_A_69_77 := hd (R_A_69_76.out.other NE_A_69_A_74.out (rwp yae yav yad))
        have R_A_74_77 := hd (R_A_74_76.out.same ⟨yae, yav, yad⟩)
        refine hK.out _ _ TW_77.out (fun _ => ?_)
        clear hK K
        refine wpAnyH_done (by kernel_rfl) ?_ _
        have fin_ : Fr ((u_75.setRow A_69 (rwp ybe ybv ybd)).setRow A_74 (rwp yae yav yad)) A_69 A_74 := HFr.out _ _ _ PL_77.out PR_77.out TW_77.out R_A_77.out R_B_77.out R_A_69_77.out R_A_74_77.out
        obtain ⟨Z, hZ⟩ : ∃ Z, Z = ((u_75.setRow A_69 #[.int .i64 ybe, .string ybv, .int .u64 (ybd : Int)]).setRow A_74 #[.int .i64 yae, .string yav, .int .u64 (yad : Int)]) := ⟨_, rfl⟩
        rw [← hZ] at ⊢
        change Fr _ _ _ at fin_
        rw [show ((u_75.setRow A_69 (rwp ybe ybv ybd)).setRow A_74 (rwp yae yav yad)) = Z from hZ.symm] at fin_
        clear hZ
        exact key Z A_69 A_74 fin_
     ·go_simp
      obtain ⟨u_78, hu_⟩ : ∃ x, x = u_59.alloc (.cells #[.int .i64 0, .string ⟨#[]⟩, .int .u64 0] 41) := ⟨_, rfl⟩
      obtain ⟨A_78, hA_⟩ : ∃ A, A = u_59.heap.size := ⟨_, rfl⟩
      have b_ := belA hu_
      have m_ := Mp.of_below (p := p) (b := b) b_
      have TW_78 := hd (TW_59.out.left m_)
      have PL_78 := hd (PL_59.out.below b_)
      have PR_78 := hd (PR_59.out.below b_)
      have R_A_78_78 : Hid (Row5 S5 u_78 A_78 ⟨0, ⟨#[]⟩, 0⟩) := hd (by rw [hu_, hA_]; exact Row5.new ⟨0, ⟨#[]⟩, 0⟩ (by have := TW_59.out.size; have := HS5.out; omega))
      have R_A_78 := hd (R_A_59.out.mp m_ LT5.out.1 LT5.out.2.1)
      have NE_A_A_78 : Hid (A ≠ A_78) := hd (by have := lt_of_rowR R_A_59.out.1; omega)
      have R_B_78 := hd (R_B_59.out.mp m_ LT5.out.1 LT5.out.2.1)
      have NE_B_A_78 : Hid (B ≠ A_78) := hd (by have := lt_of_rowR R_B_59.out.1; omega)
      rw [← hu_, ← hA_]
      refine hK.out _ _ TW_78.out (fun _ => ?_)
      clear hK K hu_ hA_ b_ m_
      refine wpAnyH_ready (rs := [5, 6]) (by kernel_rfl) (by simp) ?_
      refine AllReadyH.cons rfl (fun K hK => ?_) (AllReadyH.cons rfl (fun K hK => ?_) (AllReadyH.nil))
      ·go_simp
       refine (DA2.out u_78 PR_78.out).mono ?_; rintro e u_79 ⟨rfl, pl_, mp_⟩
       have PR_79 := hd pl_
       have PL_79 := hd (PL.othr PL_78.out mp_ DIS.out)
       have TW_79 := hd (TW_78.out.right mp_)
       have R_A_79 := hd (R_A_78.out.mp mp_ LT5.out.2.2.1 LT5.out.2.2.2)
       have R_B_79 := hd (R_B_78.out.mp mp_ LT5.out.2.2.1 LT5.out.2.2.2)
       have R_A_78_79 := hd (R_A_78_78.out.mp mp_ LT5.out.2.2.1 LT5.out.2.2.2)
       clear pl_ mp_
       (try go_simp)
       refine hK.out _ _ TW_79.out (fun _ => ?_)
       clear hK K
       refine wpAnyH_ready (rs := [6]) (by kernel_rfl) (by simp) ?_
       refine AllReadyH.cons rfl (fun K hK => ?_) (AllReadyH.nil)
       ·go_simp
        obtain ⟨u_80, hu_⟩ : ∃ x, x = u_79.alloc (.cells #[.int .i64 0, .string ⟨#[]⟩, .int .u64 0] 41) := ⟨_, rfl⟩
        obtain ⟨A_80, hA_⟩ : ∃ A, A = u_79.heap.size := ⟨_, rfl⟩
        have b_ := belA hu_
        have m_ := Mp.of_below (p := p) (b := b) b_
        have TW_80 := hd (TW_79.out.left m_)
        have PL_80 := hd (PL_79.out.below b_)
        have PR_80 := hd (PR_79.out.below b_)
        have R_A_80_80 : Hid (Row5 S5 u_80 A_80 ⟨0, ⟨#[]⟩, 0⟩) := hd (by rw [hu_, hA_]; exact Row5.new ⟨0, ⟨#[]⟩, 0⟩ (by have := TW_79.out.size; have := HS5.out; omega))
        have R_A_80 := hd (R_A_79.out.mp m_ LT5.out.1 LT5.out.2.1)
        have NE_A_A_80 : Hid (A ≠ A_80) := hd (by have := lt_of_rowR R_A_79.out.1; omega)
        have R_B_80 := hd (R_B_79.out.mp m_ LT5.out.1 LT5.out.2.1)
        have NE_B_A_80 : Hid (B ≠ A_80) := hd (by have := lt_of_rowR R_B_79.out.1; omega)
        have R_A_78_80 := hd (R_A_78_79.out.mp m_ LT5.out.1 LT5.out.2.1)
        have NE_A_78_A_80 : Hid (A_78 ≠ A_80) := hd (by have := lt_of_rowR R_A_78_79.out.1; omega)
        rw [← hu_, ← hA_]
        refine hK.out _ _ TW_80.out (fun _ => ?_)
        clear hK K hu_ hA_ b_ m_
        refine wpAnyH_ready (rs := [8]) (by kernel_rfl) (by simp) (AllReadyH.cons rfl (fun K hK => ?_) AllReadyH.nil)
        rw [if_pos (by rfl)]
        refine wp_store_row 41 _ _ rfl _ #[.int .i64 ybe, .string ybv, .int .u64 (ybd : Int)] rfl rfl _ _ R_A_80_80.out.1 (by kernel_rfl) rfl ONEyb.out ?_
        have TW_81 := hd (TW_80.out.sr HS5.out R_A_80_80.out.2 (rwp ybe ybv ybd))
        have PL_81 := hd (PL.srl PL_80.out LT5.out R_A_80_80.out.2 (rwp ybe ybv ybd))
        have PR_81 := hd (PL.srr PR_80.out LT5.out R_A_80_80.out.2 (rwp ybe ybv ybd))
        have R_A_81 := hd (R_A_80.out.other NE_A_A_80.out (rwp ybe ybv ybd))
        have R_B_81 := hd (R_B_80.out.other NE_B_A_80.out (rwp ybe ybv ybd))
        have R_A_78_81 := hd (R_A_78_80.out.other NE_A_78_A_80.out (rwp ybe ybv ybd))
        have R_A_80_81 := hd (R_A_80_80.out.same ⟨ybe, ybv, ybd⟩)
        refine hK.out _ _ TW_81.out (fun _ => ?_)
        clear hK K
        refine wpAnyH_ready (rs := [9]) (by kernel_rfl) (by simp) (AllReadyH.cons rfl (fun K hK => ?_) AllReadyH.nil)
        rw [if_pos (by rfl)]
        refine wp_store_row 41 _ _ rfl _ #[.int .i64 yae, .string yav, .int .u64 (yad : Int)] rfl rfl _ _ R_A_78_81.out.1 (by kernel_rfl) rfl ONEya.out ?_
        have TW_82 := hd (TW_81.out.sr HS5.out R_A_78_81.out.2 (rwp yae yav yad))
        have PL_82 := hd (PL.srl PL_81.out LT5.out R_A_78_81.out.2 (rwp yae yav yad))
        have PR_82 := hd (PL.srr PR_81.out LT5.out R_A_78_81.out.2 (rwp yae yav yad))
        have R_A_82 := hd (R_A_81.out.other NE_A_A_78.out (rwp yae yav yad))
        have R_B_82 := hd (R_B_81.out.other NE_B_A_78.out (rwp yae yav yad))
        have R_A_78_82 := hd (R_A_78_81.out.same ⟨yae, yav, yad⟩)
        have R_A_80_82 := hd (R_A_80_81.out.other (Ne.symm NE_A_78_A_80.out) (rwp yae yav yad))
        refine hK.out _ _ TW_82.out (fun _ => ?_)
        clear hK K
        refine wpAnyH_done (by kernel_rfl) ?_ _
        have fin_ : Fr ((u_80.setRow A_80 (rwp ybe ybv ybd)).setRow A_78 (rwp yae yav yad)) A_80 A_78 := HFr.out _ _ _ PL_82.out PR_82.out TW_82.out R_A_82.out R_B_82.out R_A_80_82.out R_A_78_82.out
        obtain ⟨Z, hZ⟩ : ∃ Z, Z = ((u_80.setRow A_80 #[.int .i64 ybe, .string ybv, .int .u64 (ybd : Int)]).setRow A_78 #[.int .i64 yae, .string yav, .int .u64 (yad : Int)]) := ⟨_, rfl⟩
        rw [← hZ] at ⊢
        change Fr _ _ _ at fin_
        rw [show ((u_80.setRow A_80 (rwp ybe ybv ybd)).setRow A_78 (rwp yae yav yad)) = Z from hZ.symm] at fin_
        clear hZ
        exact key Z A_80 A_78 fin_
      ·go_simp
       obtain ⟨u_83, hu_⟩ : ∃ x, x = u_78.alloc (.cells #[.int .i64 0, .string ⟨#[]⟩, .int .u64 0] 41) := ⟨_, rfl⟩
       obtain ⟨A_83, hA_⟩ : ∃ A, A = u_78.heap.size := ⟨_, rfl⟩
       have b_ := belA hu_
       have m_ := Mp.of_below (p := p) (b := b) b_
       have TW_83 := hd (TW_78.out.left m_)
       have PL_83 := hd (PL_78.out.below b_)
       have PR_83 := hd (PR_78.out.below b_)
       have R_A_83_83 : Hid (Row5 S5 u_83 A_83 ⟨0, ⟨#[]⟩, 0⟩) := hd (by rw [hu_, hA_]; exact Row5.new ⟨0, ⟨#[]⟩, 0⟩ (by have := TW_78.out.size; have := HS5.out; omega))
       have R_A_83 := hd (R_A_78.out.mp m_ LT5.out.1 LT5.out.2.1)
       have NE_A_A_83 : Hid (A ≠ A_83) := hd (by have := lt_of_rowR R_A_78.out.1; omega)
       have R_B_83 := hd (R_B_78.out.mp m_ LT5.out.1 LT5.out.2.1)
       have NE_B_A_83 : Hid (B ≠ A_83) := hd (by have := lt_of_rowR R_B_78.out.1; omega)
       have R_A_78_83 := hd (R_A_78_78.out.mp m_ LT5.out.1 LT5.out.2.1)
       have NE_A_78_A_83 : Hid (A_78 ≠ A_83) := hd (by have := lt_of_rowR R_A_78_78.out.1; omega)
       rw [← hu_, ← hA_]
       refine hK.out _ _ TW_83.out (fun _ => ?_)
       clear hK K hu_ hA_ b_ m_
       refine wpAnyH_ready (rs := [5]) (by kernel_rfl) (by simp) ?_
       refine AllReadyH.cons rfl (fun K hK => ?_) (AllReadyH.nil)
       ·go_simp
        refine (DA2.out u_83 PR_83.out).mono ?_; rintro e u_84 ⟨rfl, pl_, mp_⟩
        have PR_84 := hd pl_
        have PL_84 := hd (PL.othr PL_83.out mp_ DIS.out)
        have TW_84 := hd (TW_83.out.right mp_)
        have R_A_84 := hd (R_A_83.out.mp mp_ LT5.out.2.2.1 LT5.out.2.2.2)
        have R_B_84 := hd (R_B_83.out.mp mp_ LT5.out.2.2.1 LT5.out.2.2.2)
        have R_A_78_84 := hd (R_A_78_83.out.mp mp_ LT5.out.2.2.1 LT5.out.2.2.2)
        have R_A_83_84 := hd (R_A_83_83.out.mp mp_ LT5.out.2.2.1 LT5.out.2.2.2)
        clear pl_ mp_
        (try go_simp)
        refine hK.out _ _ TW_84.out (fun _ => ?_)
        clear hK K
        refine wpAnyH_ready (rs := [8]) (by kernel_rfl) (by simp) (AllReadyH.cons rfl (fun K hK => ?_) AllReadyH.nil)
        rw [if_pos (by rfl)]
        refine wp_store_row 41 _ _ rfl _ #[.int .i64 ybe, .string ybv, .int .u64 (ybd : Int)] rfl rfl _ _ R_A_83_84.out.1 (by kernel_rfl) rfl ONEyb.out ?_
        have TW_85 := hd (TW_84.out.sr HS5.out R_A_83_84.out.2 (rwp ybe ybv ybd))
        have PL_85 := hd (PL.srl PL_84.out LT5.out R_A_83_84.out.2 (rwp ybe ybv ybd))
        have PR_85 := hd (PL.srr PR_84.out LT5.out R_A_83_84.out.2 (rwp ybe ybv ybd))
        have R_A_85 := hd (R_A_84.out.other NE_A_A_83.out (rwp ybe ybv ybd))
        have R_B_85 := hd (R_B_84.out.other NE_B_A_83.out (rwp ybe ybv ybd))
        have R_A_78_85 := hd (R_A_78_84.out.other NE_A_78_A_83.out (rwp ybe ybv ybd))
        have R_A_83_85 := hd (R_A_83_84.out.same ⟨ybe, ybv, ybd⟩)
        refine hK.out _ _ TW_85.out (fun _ => ?_)
        clear hK K
        refine wpAnyH_ready (rs := [9]) (by kernel_rfl) (by simp) (AllReadyH.cons rfl (fun K hK => ?_) AllReadyH.nil)
        rw [if_pos (by rfl)]
        refine wp_store_row 41 _ _ rfl _ #[.int .i64 yae, .string yav, .int .u64 (yad : Int)] rfl rfl _ _ R_A_78_85.out.1 (by kernel_rfl) rfl ONEya.out ?_
        have TW_86 := hd (TW_85.out.sr HS5.out R_A_78_85.out.2 (rwp yae yav yad))
        have PL_86 := hd (PL.srl PL_85.out LT5.out R_A_78_85.out.2 (rwp yae yav yad))
        have PR_86 := hd (PL.srr PR_85.out LT5.out R_A_78_85.out.2 (rwp yae yav yad))
        have R_A_86 := hd (R_A_85.out.other NE_A_A_78.out (rwp yae yav yad))
        have R_B_86 := hd (R_B_85.out.other NE_B_A_78.out (rwp yae yav yad))
        have R_A_78_86 := hd (R_A_78_85.out.same ⟨yae, yav, yad⟩)
        have R_A_83_86 := hd (R_A_83_85.out.other (Ne.symm NE_A_78_A_83.out) (rwp yae yav yad))
        refine hK.out _ _ TW_86.out (fun _ => ?_)
        clear hK K
        refine wpAnyH_done (by kernel_rfl) ?_ _
        have fin_ : Fr ((u_84.setRow A_83 (rwp ybe ybv ybd)).setRow A_78 (rwp yae yav yad)) A_83 A_78 := HFr.out _ _ _ PL_86.out PR_86.out TW_86.out R_A_86.out R_B_86.out R_A_83_86.out R_A_78_86.out
        obtain ⟨Z, hZ⟩ : ∃ Z, Z = ((u_84.setRow A_83 #[.int .i64 ybe, .string ybv, .int .u64 (ybd : Int)]).setRow A_78 #[.int .i64 yae, .string yav, .int .u64 (yad : Int)]) := ⟨_, rfl⟩
        rw [← hZ] at ⊢
        change Fr _ _ _ at fin_
        rw [show ((u_84.setRow A_83 (rwp ybe ybv ybd)).setRow A_78 (rwp yae yav yad)) = Z from hZ.symm] at fin_
        clear hZ
        exact key Z A_83 A_78 fin_
    ·go_simp
     obtain ⟨u_87, hu_⟩ : ∃ x, x = Wd.alloc (.cells #[.int .i64 0, .string ⟨#[]⟩, .int .u64 0] 41) := ⟨_, rfl⟩
     obtain ⟨A_87, hA_⟩ : ∃ A, A = Wd.heap.size := ⟨_, rfl⟩
     have b_ := belA hu_
     have m_ := Mp.of_below (p := p) (b := b) b_
     have TW_87 := hd (TWd.out.left m_)
     have PL_87 := hd (PLd.out.below b_)
     have PR_87 := hd (PRd.out.below b_)
     have R_A_87_87 : Hid (Row5 S5 u_87 A_87 ⟨0, ⟨#[]⟩, 0⟩) := hd (by rw [hu_, hA_]; exact Row5.new ⟨0, ⟨#[]⟩, 0⟩ (by have := TWd.out.size; have := HS5.out; omega))
     have R_A_87 := hd (RAd.out.mp m_ LT5.out.1 LT5.out.2.1)
     have NE_A_A_87 : Hid (A ≠ A_87) := hd (by have := lt_of_rowR RAd.out.1; omega)
     have R_B_87 := hd (RBd.out.mp m_ LT5.out.1 LT5.out.2.1)
     have NE_B_A_87 : Hid (B ≠ A_87) := hd (by have := lt_of_rowR RBd.out.1; omega)
     rw [← hu_, ← hA_]
     refine hK.out _ _ TW_87.out (fun _ => ?_)
     clear hK K hu_ hA_ b_ m_
     refine wpAnyH_ready (rs := [2, 7]) (by kernel_rfl) (by simp) ?_
     refine AllReadyH.cons rfl (fun K hK => ?_) (AllReadyH.cons rfl (fun K hK => ?_) (AllReadyH.nil))
     ·go_simp
      refine (DB2.out u_87 PR_87.out).mono ?_; rintro e u_88 ⟨rfl, pl_, mp_⟩
      have PR_88 := hd pl_
      have PL_88 := hd (PL.othr PL_87.out mp_ DIS.out)
      have TW_88 := hd (TW_87.out.right mp_)
      have R_A_88 := hd (R_A_87.out.mp mp_ LT5.out.2.2.1 LT5.out.2.2.2)
      have R_B_88 := hd (R_B_87.out.mp mp_ LT5.out.2.2.1 LT5.out.2.2.2)
      have R_A_87_88 := hd (R_A_87_87.out.mp mp_ LT5.out.2.2.1 LT5.out.2.2.2)
      clear pl_ mp_
      (try go_simp)
      refine hK.out _ _ TW_88.out (fun _ => ?_)
      clear hK K
      refine wpAnyH_ready (rs := [5, 7]) (by kernel_rfl) (by simp) ?_
      refine AllReadyH.cons rfl (fun K hK => ?_) (AllReadyH.cons rfl (fun K hK => ?_) (AllReadyH.nil))
      ·go_simp
       refine (DA2.out u_88 PR_88.out).mono ?_; rintro e u_89 ⟨rfl, pl_, mp_⟩
       have PR_89 := hd pl_
       have PL_89 := hd (PL.othr PL_88.out mp_ DIS.out)
       have TW_89 := hd (TW_88.out.right mp_)
       have R_A_89 := hd (R_A_88.out.mp mp_ LT5.out.2.2.1 LT5.out.2.2.2)
       have R_B_89 := hd (R_B_88.out.mp mp_ LT5.out.2.2.1 LT5.out.2.2.2)
       have R_A_87_89 := hd (R_A_87_88.out.mp mp_ LT5.out.2.2.1 LT5.out.2.2.2)
       clear pl_ mp_
       (try go_simp)
       refine hK.out _ _ TW_89.out (fun _ => ?_)
       clear hK K
       refine wpAnyH_ready (rs := [7]) (by kernel_rfl) (by simp) ?_
       refine AllReadyH.cons rfl (fun K hK => ?_) (AllReadyH.nil)
       ·go_simp
        obtain ⟨u_90, hu_⟩ : ∃ x, x = u_89.alloc (.cells #[.int .i64 0, .string ⟨#[]⟩, .int .u64 0] 41) := ⟨_, rfl⟩
        obtain ⟨A_90, hA_⟩ : ∃ A, A = u_89.heap.size := ⟨_, rfl⟩
        have b_ := belA hu_
        have m_ := Mp.of_below (p := p) (b := b) b_
        have TW_90 := hd (TW_89.out.left m_)
        have PL_90 := hd (PL_89.out.below b_)
        have PR_90 := hd (PR_89.out.below b_)
        have R_A_90_90 : Hid (Row5 S5 u_90 A_90 ⟨0, ⟨#[]⟩, 0⟩) := hd (by rw [hu_, hA_]; exact Row5.new ⟨0, ⟨#[]⟩, 0⟩ (by have := TW_89.out.size; have := HS5.out; omega))
        have R_A_90 := hd (R_A_89.out.mp m_ LT5.out.1 LT5.out.2.1)
        have NE_A_A_90 : Hid (A ≠ A_90) := hd (by have := lt_of_rowR R_A_89.out.1; omega)
        have R_B_90 := hd (R_B_89.out.mp m_ LT5.out.1 LT5.out.2.1)
        have NE_B_A_90 : Hid (B ≠ A_90) := hd (by have := lt_of_rowR R_B_89.out.1; omega)
        have R_A_87_90 := hd (R_A_87_89.out.mp m_ LT5.out.1 LT5.out.2.1)
        have NE_A_87_A_90 : Hid (A_87 ≠ A_90) := hd (by have := lt_of_rowR R_A_87_89.out.1; omega)
        rw [← hu_, ← hA_]
        refine hK.out _ _ TW_90.out (fun _ => ?_)
        clear hK K hu_ hA_ b_ m_
        refine wpAnyH_ready (rs := [8]) (by kernel_rfl) (by simp) (AllReadyH.cons rfl (fun K hK => ?_) AllReadyH.nil)
        rw [if_pos (by rfl)]
        refine wp_store_row 41 _ _ rfl _ #[.int .i64 ybe, .string ybv, .int .u64 (ybd : Int)] rfl rfl _ _ R_A_87_90.out.1 (by kernel_rfl) rfl ONEyb.out ?_
        have TW_91 := hd (TW_90.out.sr HS5.out R_A_87_90.out.2 (rwp ybe ybv ybd))
        have PL_91 := hd (PL.srl PL_90.out LT5.out R_A_87_90.out.2 (rwp ybe ybv ybd))
        have PR_91 := hd (PL.srr PR_90.out LT5.out R_A_87_90.out.2 (rwp ybe ybv ybd))
        have R_A_91 := hd (R_A_90.out.other NE_A_A_87.out (rwp ybe ybv ybd))
        have R_B_91 := hd (R_B_90.out.other NE_B_A_87.out (rwp ybe ybv ybd))
        have R_A_87_91 := hd (R_A_87_90.out.same ⟨ybe, ybv, ybd⟩)
        have R_A_90_91 := hd (R_A_90_90.out.other (Ne.symm NE_A_87_A_90.out) (rwp ybe ybv ybd))
        refine hK.out _ _ TW_91.out (fun _ => ?_)
        clear hK K
        refine wpAnyH_ready (rs := [9]) (by kernel_rfl) (by simp) (AllReadyH.cons rfl (fun K hK => ?_) AllReadyH.nil)
        rw [if_pos (by rfl)]
        refine wp_store_row 41 _ _ rfl _ #[.int .i64 yae, .string yav, .int .u64 (yad : Int)] rfl rfl _ _ R_A_90_91.out.1 (by kernel_rfl) rfl ONEya.out ?_
        have TW_92 := hd (TW_91.out.sr HS5.out R_A_90_91.out.2 (rwp yae yav yad))
        have PL_92 := hd (PL.srl PL_91.out LT5.out R_A_90_91.out.2 (rwp yae yav yad))
        have PR_92 := hd (PL.srr PR_91.out LT5.out R_A_90_91.out.2 (rwp yae yav yad))
        have R_A_92 := hd (R_A_91.out.other NE_A_A_90.out (rwp yae yav yad))
        have R_B_92 := hd (R_B_91.out.other NE_B_A_90.out (rwp yae yav yad))
        have R_A_87_92 := hd (R_A_87_91.out.other NE_A_87_A_90.out (rwp yae yav yad))
        have R_A_90_92 := hd (R_A_90_91.out.same ⟨yae, yav, yad⟩)
        refine hK.out _ _ TW_92.out (fun _ => ?_)
        clear hK K
        refine wpAnyH_done (by kernel_rfl) ?_ _
        have fin_ : Fr ((u_90.setRow A_87 (rwp ybe ybv ybd)).setRow A_90 (rwp yae yav yad)) A_87 A_90 := HFr.out _ _ _ PL_92.out PR_92.out TW_92.out R_A_92.out R_B_92.out R_A_87_92.out R_A_90_92.out
        obtain ⟨Z, hZ⟩ : ∃ Z, Z = ((u_90.setRow A_87 #[.int .i64 ybe, .string ybv, .int .u64 (ybd : Int)]).setRow A_90 #[.int .i64 yae, .string yav, .int .u64 (yad : Int)]) := ⟨_, rfl⟩
        rw [← hZ] at ⊢
        change Fr _ _ _ at fin_
        rw [show ((u_90.setRow A_87 (rwp ybe ybv ybd)).setRow A_90 (rwp yae yav yad)) = Z from hZ.symm] at fin_
        clear hZ
        exact key Z A_87 A_90 fin_
      ·go_simp
       obtain ⟨u_93, hu_⟩ : ∃ x, x = u_88.alloc (.cells #[.int .i64 0, .string ⟨#[]⟩, .int .u64 0] 41) := ⟨_, rfl⟩
       obtain ⟨A_93, hA_⟩ : ∃ A, A = u_88.heap.size := ⟨_, rfl⟩
       have b_ := belA hu_
       have m_ := Mp.of_below (p := p) (b := b) b_
       have TW_93 := hd (TW_88.out.left m_)
       have PL_93 := hd (PL_88.out.below b_)
       have PR_93 := hd (PR_88.out.below b_)
       have R_A_93_93 : Hid (Row5 S5 u_93 A_93 ⟨0, ⟨#[]⟩, 0⟩) := hd (by rw [hu_, hA_]; exact Row5.new ⟨0, ⟨#[]⟩, 0⟩ (by have := TW_88.out.size; have := HS5.out; omega))
       have R_A_93 := hd (R_A_88.out.mp m_ LT5.out.1 LT5.out.2.1)
       have NE_A_A_93 : Hid (A ≠ A_93) := hd (by have := lt_of_rowR R_A_88.out.1; omega)
       have R_B_93 := hd (R_B_88.out.mp m_ LT5.out.1 LT5.out.2.1)
       have NE_B_A_93 : Hid (B ≠ A_93) := hd (by have := lt_of_rowR R_B_88.out.1; omega)
       have R_A_87_93 := hd (R_A_87_88.out.mp m_ LT5.out.1 LT5.out.2.1)
       have NE_A_87_A_93 : Hid (A_87 ≠ A_93) := hd (by have := lt_of_rowR R_A_87_88.out.1; omega)
       rw [← hu_, ← hA_]
       refine hK.out _ _ TW_93.out (fun _ => ?_)
       clear hK K hu_ hA_ b_ m_
       refine wpAnyH_ready (rs := [5]) (by kernel_rfl) (by simp) ?_
       refine AllReadyH.cons rfl (fun K hK => ?_) (AllReadyH.nil)
       ·go_simp
        refine (DA2.out u_93 PR_93.out).mono ?_; rintro e u_94 ⟨rfl, pl_, mp_⟩
        have PR_94 := hd pl_
        have PL_94 := hd (PL.othr PL_93.out mp_ DIS.out)
        have TW_94 := hd (TW_93.out.right mp_)
        have R_A_94 := hd (R_A_93.out.mp mp_ LT5.out.2.2.1 LT5.out.2.2.2)
        have R_B_94 := hd (R_B_93.out.mp mp_ LT5.out.2.2.1 LT5.out.2.2.2)
        have R_A_87_94 := hd (R_A_87_93.out.mp mp_ LT5.out.2.2.1 LT5.out.2.2.2)
        have R_A_93_94 := hd (R_A_93_93.out.mp mp_ LT5.out.2.2.1 LT5.out.2.2.2)
        clear pl_ mp_
        (try go_simp)
        refine hK.out _ _ TW_94.out (fun _ => ?_)
        clear hK K
        refine wpAnyH_ready (rs := [8]) (by kernel_rfl) (by simp) (AllReadyH.cons rfl (fun K hK => ?_) AllReadyH.nil)
        rw [if_pos (by rfl)]
        refine wp_store_row 41 _ _ rfl _ #[.int .i64 ybe, .string ybv, .int .u64 (ybd : Int)] rfl rfl _ _ R_A_87_94.out.1 (by kernel_rfl) rfl ONEyb.out ?_
        have TW_95 := hd (TW_94.out.sr HS5.out R_A_87_94.out.2 (rwp ybe ybv ybd))
        have PL_95 := hd (PL.srl PL_94.out LT5.out R_A_87_94.out.2 (rwp ybe ybv ybd))
        have PR_95 := hd (PL.srr PR_94.out LT5.out R_A_87_94.out.2 (rwp ybe ybv ybd))
        have R_A_95 := hd (R_A_94.out.other NE_A_A_87.out (rwp ybe ybv ybd))
        have R_B_95 := hd (R_B_94.out.other NE_B_A_87.out (rwp ybe ybv ybd))
        have R_A_87_95 := hd (R_A_87_94.out.same ⟨ybe, ybv, ybd⟩)
        have R_A_93_95 := hd (R_A_93_94.out.other (Ne.symm NE_A_87_A_93.out) (rwp ybe ybv ybd))
        refine hK.out _ _ TW_95.out (fun _ => ?_)
        clear hK K
        refine wpAnyH_ready (rs := [9]) (by kernel_rfl) (by simp) (AllReadyH.cons rfl (fun K hK => ?_) AllReadyH.nil)
        rw [if_pos (by rfl)]
        refine wp_store_row 41 _ _ rfl _ #[.int .i64 yae, .string yav, .int .u64 (yad : Int)] rfl rfl _ _ R_A_93_95.out.1 (by kernel_rfl) rfl ONEya.out ?_
        have TW_96 := hd (TW_95.out.sr HS5.out R_A_93_95.out.2 (rwp yae yav yad))
        have PL_96 := hd (PL.srl PL_95.out LT5.out R_A_93_95.out.2 (rwp yae yav yad))
        have PR_96 := hd (PL.srr PR_95.out LT5.out R_A_93_95.out.2 (rwp yae yav yad))
        have R_A_96 := hd (R_A_95.out.other NE_A_A_93.out (rwp yae yav yad))
        have R_B_96 := hd (R_B_95.out.other NE_B_A_93.out (rwp yae yav yad))
        have R_A_87_96 := hd (R_A_87_95.out.other NE_A_87_A_93.out (rwp yae yav yad))
        have R_A_93_96 := hd (R_A_93_95.out.same ⟨yae, yav, yad⟩)
        refine hK.out _ _ TW_96.out (fun _ => ?_)
        clear hK K
        refine wpAnyH_done (by kernel_rfl) ?_ _
        have fin_ : Fr ((u_94.setRow A_87 (rwp ybe ybv ybd)).setRow A_93 (rwp yae yav yad)) A_87 A_93 := HFr.out _ _ _ PL_96.out PR_96.out TW_96.out R_A_96.out R_B_96.out R_A_87_96.out R_A_93_96.out
        obtain ⟨Z, hZ⟩ : ∃ Z, Z = ((u_94.setRow A_87 #[.int .i64 ybe, .string ybv, .int .u64 (ybd : Int)]).setRow A_93 #[.int .i64 yae, .string yav, .int .u64 (yad : Int)]) := ⟨_, rfl⟩
        rw [← hZ] at ⊢
        change Fr _ _ _ at fin_
        rw [show ((u_94.setRow A_87 (rwp ybe ybv ybd)).setRow A_93 (rwp yae yav yad)) = Z from hZ.symm] at fin_
        clear hZ
        exact key Z A_87 A_93 fin_
     ·go_simp
      obtain ⟨u_97, hu_⟩ : ∃ x, x = u_87.alloc (.cells #[.int .i64 0, .string ⟨#[]⟩, .int .u64 0] 41) := ⟨_, rfl⟩
      obtain ⟨A_97, hA_⟩ : ∃ A, A = u_87.heap.size := ⟨_, rfl⟩
      have b_ := belA hu_
      have m_ := Mp.of_below (p := p) (b := b) b_
      have TW_97 := hd (TW_87.out.left m_)
      have PL_97 := hd (PL_87.out.below b_)
      have PR_97 := hd (PR_87.out.below b_)
      have R_A_97_97 : Hid (Row5 S5 u_97 A_97 ⟨0, ⟨#[]⟩, 0⟩) := hd (by rw [hu_, hA_]; exact Row5.new ⟨0, ⟨#[]⟩, 0⟩ (by have := TW_87.out.size; have := HS5.out; omega))
      have R_A_97 := hd (R_A_87.out.mp m_ LT5.out.1 LT5.out.2.1)
      have NE_A_A_97 : Hid (A ≠ A_97) := hd (by have := lt_of_rowR R_A_87.out.1; omega)
      have R_B_97 := hd (R_B_87.out.mp m_ LT5.out.1 LT5.out.2.1)
      have NE_B_A_97 : Hid (B ≠ A_97) := hd (by have := lt_of_rowR R_B_87.out.1; omega)
      have R_A_87_97 := hd (R_A_87_87.out.mp m_ LT5.out.1 LT5.out.2.1)
      have NE_A_87_A_97 : Hid (A_87 ≠ A_97) := hd (by have := lt_of_rowR R_A_87_87.out.1; omega)
      rw [← hu_, ← hA_]
      refine hK.out _ _ TW_97.out (fun _ => ?_)
      clear hK K hu_ hA_ b_ m_
      refine wpAnyH_ready (rs := [2]) (by kernel_rfl) (by simp) ?_
      refine AllReadyH.cons rfl (fun K hK => ?_) (AllReadyH.nil)
      ·go_simp
       refine (DB2.out u_97 PR_97.out).mono ?_; rintro e u_98 ⟨rfl, pl_, mp_⟩
       have PR_98 := hd pl_
       have PL_98 := hd (PL.othr PL_97.out mp_ DIS.out)
       have TW_98 := hd (TW_97.out.right mp_)
       have R_A_98 := hd (R_A_97.out.mp mp_ LT5.out.2.2.1 LT5.out.2.2.2)
       have R_B_98 := hd (R_B_97.out.mp mp_ LT5.out.2.2.1 LT5.out.2.2.2)
       have R_A_87_98 := hd (R_A_87_97.out.mp mp_ LT5.out.2.2.1 LT5.out.2.2.2)
       have R_A_97_98 := hd (R_A_97_97.out.mp mp_ LT5.out.2.2.1 LT5.out.2.2.2)
       clear pl_ mp_
       (try go_simp)
       refine hK.out _ _ TW_98.out (fun _ => ?_)
       clear hK K
       refine wpAnyH_ready (rs := [5]) (by kernel_rfl) (by simp) ?_
       refine AllReadyH.cons rfl (fun K hK => ?_) (AllReadyH.nil)
       ·go_simp
        refine (DA2.out u_98 PR_98.out).mono ?_; rintro e u_99 ⟨rfl, pl_, mp_⟩
        have PR_99 := hd pl_
        have PL_99 := hd (PL.othr PL_98.out mp_ DIS.out)
        have TW_99 := hd (TW_98.out.right mp_)
        have R_A_99 := hd (R_A_98.out.mp mp_ LT5.out.2.2.1 LT5.out.2.2.2)
        have R_B_99 := hd (R_B_98.out.mp mp_ LT5.out.2.2.1 LT5.out.2.2.2)
        have R_A_87_99 := hd (R_A_87_98.out.mp mp_ LT5.out.2.2.1 LT5.out.2.2.2)
        have R_A_97_99 := hd (R_A_97_98.out.mp mp_ LT5.out.2.2.1 LT5.out.2.2.2)
        clear pl_ mp_
        (try go_simp)
        refine hK.out _ _ TW_99.out (fun _ => ?_)
        clear hK K
        refine wpAnyH_ready (rs := [8]) (by kernel_rfl) (by simp) (AllReadyH.cons rfl (fun K hK => ?_) AllReadyH.nil)
        rw [if_pos (by rfl)]
        refine wp_store_row 41 _ _ rfl _ #[.int .i64 ybe, .string ybv, .int .u64 (ybd : Int)] rfl rfl _ _ R_A_87_99.out.1 (by kernel_rfl) rfl ONEyb.out ?_
        have TW_100 := hd (TW_99.out.sr HS5.out R_A_87_99.out.2 (rwp ybe ybv ybd))
        have PL_100 := hd (PL.srl PL_99.out LT5.out R_A_87_99.out.2 (rwp ybe ybv ybd))
        have PR_100 := hd (PL.srr PR_99.out LT5.out R_A_87_99.out.2 (rwp ybe ybv ybd))
        have R_A_100 := hd (R_A_99.out.other NE_A_A_87.out (rwp ybe ybv ybd))
        have R_B_100 := hd (R_B_99.out.other NE_B_A_87.out (rwp ybe ybv ybd))
        have R_A_87_100 := hd (R_A_87_99.out.same ⟨ybe, ybv, ybd⟩)
        have R_A_97_100 := hd (R_A_97_99.out.other (Ne.symm NE_A_87_A_97.out) (rwp ybe ybv ybd))
        refine hK.out _ _ TW_100.out (fun _ => ?_)
        clear hK K
        refine wpAnyH_ready (rs := [9]) (by kernel_rfl) (by simp) (AllReadyH.cons rfl (fun K hK => ?_) AllReadyH.nil)
        rw [if_pos (by rfl)]
        refine wp_store_row 41 _ _ rfl _ #[.int .i64 yae, .string yav, .int .u64 (yad : Int)] rfl rfl _ _ R_A_97_100.out.1 (by kernel_rfl) rfl ONEya.out ?_
        have TW_101 := hd (TW_100.out.sr HS5.out R_A_97_100.out.2 (rwp yae yav yad))
        have PL_101 := hd (PL.srl PL_100.out LT5.out R_A_97_100.out.2 (rwp yae yav yad))
        have PR_101 := hd (PL.srr PR_100.out LT5.out R_A_97_100.out.2 (rwp yae yav yad))
        have R_A_101 := hd (R_A_100.out.other NE_A_A_97.out (rwp yae yav yad))
        have R_B_101 := hd (R_B_100.out.other NE_B_A_97.out (rwp yae yav yad))
        have R_A_87_101 := hd (R_A_87_100.out.other NE_A_87_A_97.out (rwp yae yav yad))
        have R_A_97_101 := hd (R_A_97_100.out.same ⟨yae, yav, yad⟩)
        refine hK.out _ _ TW_101.out (fun _ => ?_)
        clear hK K
        refine wpAnyH_done (by kernel_rfl) ?_ _
        have fin_ : Fr ((u_99.setRow A_87 (rwp ybe ybv ybd)).setRow A_97 (rwp yae yav yad)) A_87 A_97 := HFr.out _ _ _ PL_101.out PR_101.out TW_101.out R_A_101.out R_B_101.out R_A_87_101.out R_A_97_101.out
        obtain ⟨Z, hZ⟩ : ∃ Z, Z = ((u_99.setRow A_87 #[.int .i64 ybe, .string ybv, .int .u64 (ybd : Int)]).setRow A_97 #[.int .i64 yae, .string yav, .int .u64 (yad : Int)]) := ⟨_, rfl⟩
        rw [← hZ] at ⊢
        change Fr _ _ _ at fin_
        rw [show ((u_99.setRow A_87 (rwp ybe ybv ybd)).setRow A_97 (rwp yae yav yad)) = Z from hZ.symm] at fin_
        clear hZ
        exact key Z A_87 A_97 fin_
    ·go_simp
     obtain ⟨u_102, hu_⟩ : ∃ x, x = Wd.alloc (.cells #[.int .i64 0, .string ⟨#[]⟩, .int .u64 0] 41) := ⟨_, rfl⟩
     obtain ⟨A_102, hA_⟩ : ∃ A, A = Wd.heap.size := ⟨_, rfl⟩
     have b_ := belA hu_
     have m_ := Mp.of_below (p := p) (b := b) b_
     have TW_102 := hd (TWd.out.left m_)
     have PL_102 := hd (PLd.out.below b_)
     have PR_102 := hd (PRd.out.below b_)
     have R_A_102_102 : Hid (Row5 S5 u_102 A_102 ⟨0, ⟨#[]⟩, 0⟩) := hd (by rw [hu_, hA_]; exact Row5.new ⟨0, ⟨#[]⟩, 0⟩ (by have := TWd.out.size; have := HS5.out; omega))
     have R_A_102 := hd (RAd.out.mp m_ LT5.out.1 LT5.out.2.1)
     have NE_A_A_102 : Hid (A ≠ A_102) := hd (by have := lt_of_rowR RAd.out.1; omega)
     have R_B_102 := hd (RBd.out.mp m_ LT5.out.1 LT5.out.2.1)
     have NE_B_A_102 : Hid (B ≠ A_102) := hd (by have := lt_of_rowR RBd.out.1; omega)
     rw [← hu_, ← hA_]
     refine hK.out _ _ TW_102.out (fun _ => ?_)
     clear hK K hu_ hA_ b_ m_
     refine wpAnyH_ready (rs := [2, 6]) (by kernel_rfl) (by simp) ?_
     refine AllReadyH.cons rfl (fun K hK => ?_) (AllReadyH.cons rfl (fun K hK => ?_) (AllReadyH.nil))
     ·go_simp
      refine (DB2.out u_102 PR_102.out).mono ?_; rintro e u_103 ⟨rfl, pl_, mp_⟩
      have PR_103 := hd pl_
      have PL_103 := hd (PL.othr PL_102.out mp_ DIS.out)
      have TW_103 := hd (TW_102.out.right mp_)
      have R_A_103 := hd (R_A_102.out.mp mp_ LT5.out.2.2.1 LT5.out.2.2.2)
      have R_B_103 := hd (R_B_102.out.mp mp_ LT5.out.2.2.1 LT5.out.2.2.2)
      have R_A_102_103 := hd (R_A_102_102.out.mp mp_ LT5.out.2.2.1 LT5.out.2.2.2)
      clear pl_ mp_
      (try go_simp)
      refine hK.out _ _ TW_103.out (fun _ => ?_)
      clear hK K
      refine wpAnyH_ready (rs := [5, 6]) (by kernel_rfl) (by simp) ?_
      refine AllReadyH.cons rfl (fun K hK => ?_) (AllReadyH.cons rfl (fun K hK => ?_) (AllReadyH.nil))
      ·go_simp
       refine (DA2.out u_103 PR_103.out).mono ?_; rintro e u_104 ⟨rfl, pl_, mp_⟩
       have PR_104 := hd pl_
       have PL_104 := hd (PL.othr PL_103.out mp_ DIS.out)
       have TW_104 := hd (TW_103.out.right mp_)
       have R_A_104 := hd (R_A_103.out.mp mp_ LT5.out.2.2.1 LT5.out.2.2.2)
       have R_B_104 := hd (R_B_103.out.mp mp_ LT5.out.2.2.1 LT5.out.2.2.2)
       have R_A_102_104 := hd (R_A_102_103.out.mp mp_ LT5.out.2.2.1 LT5.out.2.2.2)
       clear pl_ mp_
       (try go_simp)
       refine hK.out _ _ TW_104.out (fun _ => ?_)
       clear hK K
       refine wpAnyH_ready (rs := [6]) (by kernel_rfl) (by simp) ?_
       refine AllReadyH.cons rfl (fun K hK => ?_) (AllReadyH.nil)
       ·go_simp
        obtain ⟨u_105, hu_⟩ : ∃ x, x = u_104.alloc (.cells #[.int .i64 0, .string ⟨#[]⟩, .int .u64 0] 41) := ⟨_, rfl⟩
        obtain ⟨A_105, hA_⟩ : ∃ A, A = u_104.heap.size := ⟨_, rfl⟩
        have b_ := belA hu_
        have m_ := Mp.of_below (p := p) (b := b) b_
        have TW_105 := hd (TW_104.out.left m_)
        have PL_105 := hd (PL_104.out.below b_)
        have PR_105 := hd (PR_104.out.below b_)
        have R_A_105_105 : Hid (Row5 S5 u_105 A_105 ⟨0, ⟨#[]⟩, 0⟩) := hd (by rw [hu_, hA_]; exact Row5.new ⟨0, ⟨#[]⟩, 0⟩ (by have := TW_104.out.size; have := HS5.out; omega))
        have R_A_105 := hd (R_A_104.out.mp m_ LT5.out.1 LT5.out.2.1)
        have NE_A_A_105 : Hid (A ≠ A_105) := hd (by have := lt_of_rowR R_A_104.out.1; omega)
        have R_B_105 := hd (R_B_104.out.mp m_ LT5.out.1 LT5.out.2.1)
        have NE_B_A_105 : Hid (B ≠ A_105) := hd (by have := lt_of_rowR R_B_104.out.1; omega)
        have R_A_102_105 := hd (R_A_102_104.out.mp m_ LT5.out.1 LT5.out.2.1)
        have NE_A_102_A_105 : Hid (A_102 ≠ A_105) := hd (by have := lt_of_rowR R_A_102_104.out.1; omega)
        rw [← hu_, ← hA_]
        refine hK.out _ _ TW_105.out (fun _ => ?_)
        clear hK K hu_ hA_ b_ m_
        refine wpAnyH_ready (rs := [8]) (by kernel_rfl) (by simp) (AllReadyH.cons rfl (fun K hK => ?_) AllReadyH.nil)
        rw [if_pos (by rfl)]
        refine wp_store_row 41 _ _ rfl _ #[.int .i64 ybe, .string ybv, .int .u64 (ybd : Int)] rfl rfl _ _ R_A_105_105.out.1 (by kernel_rfl) rfl ONEyb.out ?_
        have TW_106 := hd (TW_105.out.sr HS5.out R_A_105_105.out.2 (rwp ybe ybv ybd))
        have PL_106 := hd (PL.srl PL_105.out LT5.out R_A_105_105.out.2 (rwp ybe ybv ybd))
        have PR_106 := hd (PL.srr PR_105.out LT5.out R_A_105_105.out.2 (rwp ybe ybv ybd))
        have R_A_106 := hd (R_A_105.out.other NE_A_A_105.out (rwp ybe ybv ybd))
        have R_B_106 := hd (R_B_105.out.other NE_B_A_105.out (rwp ybe ybv ybd))
        have R_A_102_106 := hd (R_A_102_105.out.other NE_A_102_A_105.out (rwp ybe ybv ybd))
        have R_A_105_106 := hd (R_A_105_105.out.same ⟨ybe, ybv, ybd⟩)
        refine hK.out _ _ TW_106.out (fun _ => ?_)
        clear hK K
        refine wpAnyH_ready (rs := [9]) (by kernel_rfl) (by simp) (AllReadyH.cons rfl (fun K hK => ?_) AllReadyH.nil)
        rw [if_pos (by rfl)]
        refine wp_store_row 41 _ _ rfl _ #[.int .i64 yae, .string yav, .int .u64 (yad : Int)] rfl rfl _ _ R_A_102_106.out.1 (by kernel_rfl) rfl ONEya.out ?_
        have TW_107 := hd (TW_106.out.sr HS5.out R_A_102_106.out.2 (rwp yae yav yad))
        have PL_107 := hd (PL.srl PL_106.out LT5.out R_A_102_106.out.2 (rwp yae yav yad))
        have PR_107 := hd (PL.srr PR_106.out LT5.out R_A_102_106.out.2 (rwp yae yav yad))
        have R_A_107 := hd (R_A_106.out.other NE_A_A_102.out (rwp yae yav yad))
        have R_B_107 := hd (R_B_106.out.other NE_B_A_102.out (rwp yae yav yad))
        have R_A_102_107 := hd (R_A_102_106.out.same ⟨yae, yav, yad⟩)
        have R_A_105_107 := hd (R_A_105_106.out.other (Ne.symm NE_A_102_A_105.out) (rwp yae yav yad))
        refine hK.out _ _ TW_107.out (fun _ => ?_)
        clear hK K
        refine wpAnyH_done (by kernel_rfl) ?_ _
        have fin_ : Fr ((u_105.setRow A_105 (rwp ybe ybv ybd)).setRow A_102 (rwp yae yav yad)) A_105 A_102 := HFr.out _ _ _ PL_107.out PR_107.out TW_107.out R_A_107.out R_B_107.out R_A_105_107.out R_A_102_107.out
        obtain ⟨Z, hZ⟩ : ∃ Z, Z = ((u_105.setRow A_105 #[.int .i64 ybe, .string ybv, .int .u64 (ybd : Int)]).setRow A_102 #[.int .i64 yae, .string yav, .int .u64 (yad : Int)]) := ⟨_, rfl⟩
        rw [← hZ] at ⊢
        change Fr _ _ _ at fin_
        rw [show ((u_105.setRow A_105 (rwp ybe ybv ybd)).setRow A_102 (rwp yae yav yad)) = Z from hZ.symm] at fin_
        clear hZ
        exact key Z A_105 A_102 fin_
      ·go_simp
       obtain ⟨u_108, hu_⟩ : ∃ x, x = u_103.alloc (.cells #[.int .i64 0, .string ⟨#[]⟩, .int .u64 0] 41) := ⟨_, rfl⟩
       obtain ⟨A_108, hA_⟩ : ∃ A, A = u_103.heap.size := ⟨_, rfl⟩
       have b_ := belA hu_
       have m_ := Mp.of_below (p := p) (b := b) b_
       have TW_108 := hd (TW_103.out.left m_)
       have PL_108 := hd (PL_103.out.below b_)
       have PR_108 := hd (PR_103.out.below b_)
       have R_A_108_108 : Hid (Row5 S5 u_108 A_108 ⟨0, ⟨#[]⟩, 0⟩) := hd (by rw [hu_, hA_]; exact Row5.new ⟨0, ⟨#[]⟩, 0⟩ (by have := TW_103.out.size; have := HS5.out; omega))
       have R_A_108 := hd (R_A_103.out.mp m_ LT5.out.1 LT5.out.2.1)
       have NE_A_A_108 : Hid (A ≠ A_108) := hd (by have := lt_of_rowR R_A_103.out.1; omega)
       have R_B_108 := hd (R_B_103.out.mp m_ LT5.out.1 LT5.out.2.1)
       have NE_B_A_108 : Hid (B ≠ A_108) := hd (by have := lt_of_rowR R_B_103.out.1; omega)
       have R_A_102_108 := hd (R_A_102_103.out.mp m_ LT5.out.1 LT5.out.2.1)
       have NE_A_102_A_108 : Hid (A_102 ≠ A_108) := hd (by have := lt_of_rowR R_A_102_103.out.1; omega)
       rw [← hu_, ← hA_]
       refine hK.out _ _ TW_108.out (fun _ => ?_)
       clear hK K hu_ hA_ b_ m_
       refine wpAnyH_ready (rs := [5]) (by kernel_rfl) (by simp) ?_
       refine AllReadyH.cons rfl (fun K hK => ?_) (AllReadyH.nil)
       ·go_simp
        refine (DA2.out u_108 PR_108.out).mono ?_; rintro e u_109 ⟨rfl, pl_, mp_⟩
        have PR_109 := hd pl_
        have PL_109 := hd (PL.othr PL_108.out mp_ DIS.out)
        have TW_109 := hd (TW_108.out.right mp_)
        have R_A_109 := hd (R_A_108.out.mp mp_ LT5.out.2.2.1 LT5.out.2.2.2)
        have R_B_109 := hd (R_B_108.out.mp mp_ LT5.out.2.2.1 LT5.out.2.2.2)
        have R_A_102_109 := hd (R_A_102_108.out.mp mp_ LT5.out.2.2.1 LT5.out.2.2.2)
        have R_A_108_109 := hd (R_A_108_108.out.mp mp_ LT5.out.2.2.1 LT5.out.2.2.2)
        clear pl_ mp_
        (try go_simp)
        refine hK.out _ _ TW_109.out (fun _ => ?_)
        clear hK K
        refine wpAnyH_ready (rs := [8]) (by kernel_rfl) (by simp) (AllReadyH.cons rfl (fun K hK => ?_) AllReadyH.nil)
        rw [if_pos (by rfl)]
        refine wp_store_row 41 _ _ rfl _ #[.int .i64 ybe, .string ybv, .int .u64 (ybd : Int)] rfl rfl _ _ R_A_108_109.out.1 (by kernel_rfl) rfl ONEyb.out ?_
        have TW_110 := hd (TW_109.out.sr HS5.out R_A_108_109.out.2 (rwp ybe ybv ybd))
        have PL_110 := hd (PL.srl PL_109.out LT5.out R_A_108_109.out.2 (rwp ybe ybv ybd))
        have PR_110 := hd (PL.srr PR_109.out LT5.out R_A_108_109.out.2 (rwp ybe ybv ybd))
        have R_A_110 := hd (R_A_109.out.other NE_A_A_108.out (rwp ybe ybv ybd))
        have R_B_110 := hd (R_B_109.out.other NE_B_A_108.out (rwp ybe ybv ybd))
        have R_A_102_110 := hd (R_A_102_109.out.other NE_A_102_A_108.out (rwp ybe ybv ybd))
        have R_A_108_110 := hd (R_A_108_109.out.same ⟨ybe, ybv, ybd⟩)
        refine hK.out _ _ TW_110.out (fun _ => ?_)
        clear hK K
        refine wpAnyH_ready (rs := [9]) (by kernel_rfl) (by simp) (AllReadyH.cons rfl (fun K hK => ?_) AllReadyH.nil)
        rw [if_pos (by rfl)]
        refine wp_store_row 41 _ _ rfl _ #[.int .i64 yae, .string yav, .int .u64 (yad : Int)] rfl rfl _ _ R_A_102_110.out.1 (by kernel_rfl) rfl ONEya.out ?_
        have TW_111 := hd (TW_110.out.sr HS5.out R_A_102_110.out.2 (rwp yae yav yad))
        have PL_111 := hd (PL.srl PL_110.out LT5.out R_A_102_110.out.2 (rwp yae yav yad))
        have PR_111 := hd (PL.srr PR_110.out LT5.out R_A_102_110.out.2 (rwp yae yav yad))
        have R_A_111 := hd (R_A_110.out.other NE_A_A_102.out (rwp yae yav yad))
        have R_B_111 := hd (R_B_110.out.other NE_B_A_102.out (rwp yae yav yad))
        have R_A_102_111 := hd (R_A_102_110.out.same ⟨yae, yav, yad⟩)
        have R_A_108_111 := hd (R_A_108_110.out.other (Ne.symm NE_A_102_A_108.out) (rwp yae yav yad))
        refine hK.out _ _ TW_111.out (fun _ => ?_)
        clear hK K
        refine wpAnyH_done (by kernel_rfl) ?_ _
        have fin_ : Fr ((u_109.setRow A_108 (rwp ybe ybv ybd)).setRow A_102 (rwp yae yav yad)) A_108 A_102 := HFr.out _ _ _ PL_111.out PR_111.out TW_111.out R_A_111.out R_B_111.out R_A_108_111.out R_A_102_111.out
        obtain ⟨Z, hZ⟩ : ∃ Z, Z = ((u_109.setRow A_108 #[.int .i64 ybe, .string ybv, .int .u64 (ybd : Int)]).setRow A_102 #[.int .i64 yae, .string yav, .int .u64 (yad : Int)]) := ⟨_, rfl⟩
        rw [← hZ] at ⊢
        change Fr _ _ _ at fin_
        rw [show ((u_109.setRow A_108 (rwp ybe ybv ybd)).setRow A_102 (rwp yae yav yad)) = Z from hZ.symm] at fin_
        clear hZ
        exact key Z A_108 A_102 fin_
     ·go_simp
      obtain ⟨u_112, hu_⟩ : ∃ x, x = u_102.alloc (.cells #[.int .i64 0, .string ⟨#[]⟩, .int .u64 0] 41) := ⟨_, rfl⟩
      obtain ⟨A_112, hA_⟩ : ∃ A, A = u_102.heap.size := ⟨_, rfl⟩
      have b_ := belA hu_
      have m_ := Mp.of_below (p := p) (b := b) b_
      have TW_112 := hd (TW_102.out.left m_)
      have PL_112 := hd (PL_102.out.below b_)
      have PR_112 := hd (PR_102.out.below b_)
      have R_A_112_112 : Hid (Row5 S5 u_112 A_112 ⟨0, ⟨#[]⟩, 0⟩) := hd (by rw [hu_, hA_]; exact Row5.new ⟨0, ⟨#[]⟩, 0⟩ (by have := TW_102.out.size; have := HS5.out; omega))
      have R_A_112 := hd (R_A_102.out.mp m_ LT5.out.1 LT5.out.2.1)
      have NE_A_A_112 : Hid (A ≠ A_112) := hd (by have := lt_of_rowR R_A_102.out.1; omega)
      have R_B_112 := hd (R_B_102.out.mp m_ LT5.out.1 LT5.out.2.1)
      have NE_B_A_112 : Hid (B ≠ A_112) := hd (by have := lt_of_rowR R_B_102.out.1; omega)
      have R_A_102_112 := hd (R_A_102_102.out.mp m_ LT5.out.1 LT5.out.2.1)
      have NE_A_102_A_112 : Hid (A_102 ≠ A_112) := hd (by have := lt_of_rowR R_A_102_102.out.1; omega)
      rw [← hu_, ← hA_]
      refine hK.out _ _ TW_112.out (fun _ => ?_)
      clear hK K hu_ hA_ b_ m_
      refine wpAnyH_ready (rs := [2]) (by kernel_rfl) (by simp) ?_
      refine AllReadyH.cons rfl (fun K hK => ?_) (AllReadyH.nil)
      ·go_simp
       refine (DB2.out u_112 PR_112.out).mono ?_; rintro e u_113 ⟨rfl, pl_, mp_⟩
       have PR_113 := hd pl_
       have PL_113 := hd (PL.othr PL_112.out mp_ DIS.out)
       have TW_113 := hd (TW_112.out.right mp_)
       have R_A_113 := hd (R_A_112.out.mp mp_ LT5.out.2.2.1 LT5.out.2.2.2)
       have R_B_113 := hd (R_B_112.out.mp mp_ LT5.out.2.2.1 LT5.out.2.2.2)
       have R_A_102_113 := hd (R_A_102_112.out.mp mp_ LT5.out.2.2.1 LT5.out.2.2.2)
       have R_A_112_113 := hd (R_A_112_112.out.mp mp_ LT5.out.2.2.1 LT5.out.2.2.2)
       clear pl_ mp_
       (try go_simp)
       refine hK.out _ _ TW_113.out (fun _ => ?_)
       clear hK K
       refine wpAnyH_ready (rs := [5]) (by kernel_rfl) (by simp) ?_
       refine AllReadyH.cons rfl (fun K hK => ?_) (AllReadyH.nil)
       ·go_simp
        refine (DA2.out u_113 PR_113.out).mono ?_; rintro e u_114 ⟨rfl, pl_, mp_⟩
        have PR_114 := hd pl_
        have PL_114 := hd (PL.othr PL_113.out mp_ DIS.out)
        have TW_114 := hd (TW_113.out.right mp_)
        have R_A_114 := hd (R_A_113.out.mp mp_ LT5.out.2.2.1 LT5.out.2.2.2)
        have R_B_114 := hd (R_B_113.out.mp mp_ LT5.out.2.2.1 LT5.out.2.2.2)
        have R_A_102_114 := hd (R_A_102_113.out.mp mp_ LT5.out.2.2.1 LT5.out.2.2.2)
        have R_A_112_114 := hd (R_A_112_113.out.mp mp_ LT5.out.2.2.1 LT5.out.2.2.2)
        clear pl_ mp_
        (try go_simp)
        refine hK.out _ _ TW_114.out (fun _ => ?_)
        clear hK K
        refine wpAnyH_ready (rs := [8]) (by kernel_rfl) (by simp) (AllReadyH.cons rfl (fun K hK => ?_) AllReadyH.nil)
        rw [if_pos (by rfl)]
        refine wp_store_row 41 _ _ rfl _ #[.int .i64 ybe, .string ybv, .int .u64 (ybd : Int)] rfl rfl _ _ R_A_112_114.out.1 (by kernel_rfl) rfl ONEyb.out ?_
        have TW_115 := hd (TW_114.out.sr HS5.out R_A_112_114.out.2 (rwp ybe ybv ybd))
        have PL_115 := hd (PL.srl PL_114.out LT5.out R_A_112_114.out.2 (rwp ybe ybv ybd))
        have PR_115 := hd (PL.srr PR_114.out LT5.out R_A_112_114.out.2 (rwp ybe ybv ybd))
        have R_A_115 := hd (R_A_114.out.other NE_A_A_112.out (rwp ybe ybv ybd))
        have R_B_115 := hd (R_B_114.out.other NE_B_A_112.out (rwp ybe ybv ybd))
        have R_A_102_115 := hd (R_A_102_114.out.other NE_A_102_A_112.out (rwp ybe ybv ybd))
        have R_A_112_115 := hd (R_A_112_114.out.same ⟨ybe, ybv, ybd⟩)
        refine hK.out _ _ TW_115.out (fun _ => ?_)
        clear hK K
        refine wpAnyH_ready (rs := [9]) (by kernel_rfl) (by simp) (AllReadyH.cons rfl (fun K hK => ?_) AllReadyH.nil)
        rw [if_pos (by rfl)]
        refine wp_store_row 41 _ _ rfl _ #[.int .i64 yae, .string yav, .int .u64 (yad : Int)] rfl rfl _ _ R_A_102_115.out.1 (by kernel_rfl) rfl ONEya.out ?_
        have TW_116 := hd (TW_115.out.sr HS5.out R_A_102_115.out.2 (rwp yae yav yad))
        have PL_116 := hd (PL.srl PL_115.out LT5.out R_A_102_115.out.2 (rwp yae yav yad))
        have PR_116 := hd (PL.srr PR_115.out LT5.out R_A_102_115.out.2 (rwp yae yav yad))
        have R_A_116 := hd (R_A_115.out.other NE_A_A_102.out (rwp yae yav yad))
        have R_B_116 := hd (R_B_115.out.other NE_B_A_102.out (rwp yae yav yad))
        have R_A_102_116 := hd (R_A_102_115.out.same ⟨yae, yav, yad⟩)
        have R_A_112_116 := hd (R_A_112_115.out.other (Ne.symm NE_A_102_A_112.out) (rwp yae yav yad))
        refine hK.out _ _ TW_116.out (fun _ => ?_)
        clear hK K
        refine wpAnyH_done (by kernel_rfl) ?_ _
        have fin_ : Fr ((u_114.setRow A_112 (rwp ybe ybv ybd)).setRow A_102 (rwp yae yav yad)) A_112 A_102 := HFr.out _ _ _ PL_116.out PR_116.out TW_116.out R_A_116.out R_B_116.out R_A_112_116.out R_A_102_116.out
        obtain ⟨Z, hZ⟩ : ∃ Z, Z = ((u_114.setRow A_112 #[.int .i64 ybe, .string ybv, .int .u64 (ybd : Int)]).setRow A_102 #[.int .i64 yae, .string yav, .int .u64 (yad : Int)]) := ⟨_, rfl⟩
        rw [← hZ] at ⊢
        change Fr _ _ _ at fin_
        rw [show ((u_114.setRow A_112 (rwp ybe ybv ybd)).setRow A_102 (rwp yae yav yad)) = Z from hZ.symm] at fin_
        clear hZ
        exact key Z A_112 A_102 fin_
   intro v2 C DD hf2
   rw [HFr2.out] at hf2
   obtain ⟨pl2, pr2, tw2, ra2, rb2, rc2, rd2⟩ := hf2
   obtain ⟨a1, b1, c1⟩ := ra2.cells
   obtain ⟨a2, b2, c2⟩ := rb2.cells
   obtain ⟨a3, b3, c3⟩ := rc2.cells
   obtain ⟨a4, b4, c4⟩ := rd2.cells
   simp only at a1 b1 c1 a2 b2 c2 a3 b3 c3 a4 b4 c4
   obtain ⟨L, hL, hll⟩ := pl2.ses
   have PL2 := Lib.hid pl2
   have PR2 := Lib.hid pr2
   have TW2 := Lib.hid tw2
   have HL := Lib.hid hL
   have HLL := Lib.hid hll
   clear pl2 pr2 tw2 ra2 rb2 rc2 rd2 hL hll
   go_wp2_with fail
   refine (sess_is v2 p b (m + 1 + 1) now 1000 fab L PL2.out (by have := HM22.out; omega) HL.out).mono ?_; rintro e z1 ⟨⟨s1, rfl, l1⟩, d1⟩
   have hli := Lives_val z1 s1 L l1 (by have := HLL.out; have := HM22.out; omega)
   obtain ⟨o1, t1, hs1⟩ := l1.form
   subst hs1
   have HLI := Lib.hid hli
   have DZ1 := Lib.hid d1
   clear hli l1 d1 a1 b1 c1 a2 b2 c2 a3 b3 c3 a4 b4 c4
   go_wp2_with fail
   refine (HLI.out).mono ?_; rintro e z2 ⟨⟨s2, rfl, l2⟩, d2⟩
   have DZ2 := Lib.hid (stepR DZ1.out d2)
   have LL2 := Lib.hid l2
   obtain ⟨o2, t2, hs2⟩ := l2.form
   subst hs2
   clear l2 d2
   go_wp2_with fail
   refine (sess_is z2 p' b' (m + 1 + 1) now 1000 fab L (PR2.out.below DZ2.out) (by have := HM22.out; omega) HL.out).mono ?_; rintro e z3 ⟨⟨s3, rfl, l3⟩, d3⟩
   have hli := Lives_val z3 s3 L l3 (by have := HLL.out; have := HM22.out; omega)
   obtain ⟨o3, t3, hs3⟩ := l3.form
   subst hs3
   have HLI3 := Lib.hid hli
   have LL3 := Lib.hid (LL2.out.below d3 (Nat.le_refl _))
   have DZ3 := Lib.hid (stepR DZ2.out d3)
   clear hli l3 d3
   go_wp2_with fail
   refine (HLI3.out).mono ?_; rintro e z4 ⟨⟨s4, rfl, l4⟩, d4⟩
   have DZ4 := Lib.hid (stepR DZ3.out d4)
   have hsm := Same_val z4 _ s4 L L (LL3.out.below d4 (Nat.le_refl _)) l4 (by have := HLL.out; have := HM22.out; omega)
   rw [decide_eq_true rfl] at hsm
   obtain ⟨o4, t4, hs4⟩ := l4.form
   subst hs4
   have HSM := Lib.hid hsm
   clear hsm l4 d4
   go_wp2_with fail
   refine (HSM.out).mono ?_; rintro e z5 ⟨rfl, d5⟩
   have DZ5 := Lib.hid (stepR DZ4.out d5)
   clear d5
   go_wp2_with fail
   refine (fixed_val _).mono ?_; rintro e z6 ⟨rfl, d6⟩
   go_wp2_with fail
   go_ret
   have BF := B5.out.trans ((TW2.out.left (Mp.of_below (p := p) (b := b) (stepR DZ5.out d6))).below (B := X) (by have := LOW.out; have := HYX.out; omega) (by have := LOW.out; have := HYX.out; omega) (by have := LOW.out; have := HYX.out; omega) (by have := LOW.out; have := HYX.out; omega) (by have := B5.out.size; have := HXX.out; omega))
   exact ⟨rfl, by rw [← HXX.out]; exact BF⟩
theorem PlainOrder_walk (v0 v1 v2 : Value) (w : World) (o0 : Row.Opn Try.prog w 23 v0) (o1 : Row.Opn Try.prog w 32 v1) (o2 : Row.Opn Try.prog w 32 v2) :
    Calls Try.prog 7 #[v0, v1, v2] w fun e w' => e = .returned (.bool true) ∧ Below w.heap.size w w' := by
  obtain ⟨l, h1, h2, _⟩ := open_ops o0
  obtain ⟨ra, rfl, hra⟩ := open_rq o1
  obtain ⟨rb, rfl, hrb⟩ := open_rq o2
  exact order_main l v0 ra rb w h1 h2 hra hrb
end Go.Proofs.Ytmbidannodelfaa.L
