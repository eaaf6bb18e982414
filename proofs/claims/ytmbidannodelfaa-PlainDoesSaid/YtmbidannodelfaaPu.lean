/- What is asked of a store: get, touch, put, destroy. -/
import Derived.Test.YtmbidannodelfaaPt
namespace Go.Proofs.Ytmbidannodelfaa.G
open Go.RowKit Go.Maps Go.Proofs.Ytmbidannodelfaa.WordPlain Go.Proofs.Ytmbidannodelfaa.Loose
set_option linter.unusedVariables false
set_option linter.unusedSimpArgs false

/-- what stood stands, but for the store's two blocks -/
structure Mp (p b : Nat) (w w' : World) : Prop where
  os : w'.os = w.os
  tape : w'.tape = w.tape
  output : w'.output = w.output
  size : w.heap.size ≤ w'.heap.size
  block : ∀ i, i < w.heap.size → i ≠ p → i ≠ b → w'.heap[i]? = w.heap[i]?
theorem Mp.refl (p b : Nat) (w : World) : Mp p b w w := ⟨rfl, rfl, rfl, Nat.le_refl _, fun _ _ _ _ => rfl⟩
theorem Mp.of_below {p b : Nat} {w w' : World} (h : Below w.heap.size w w') : Mp p b w w' := ⟨h.os, h.tape, h.output, h.size, fun i hi _ _ => h.block i hi⟩
theorem Mp.trans {p b : Nat} {w w1 w2 : World} (h : Mp p b w w1) (k : Mp p b w1 w2) : Mp p b w w2 :=
  ⟨k.os.trans h.os, k.tape.trans h.tape, k.output.trans h.output, Nat.le_trans h.size k.size, fun i hi hp hb => (k.block i (Nat.lt_of_lt_of_le hi h.size) hp hb).trans (h.block i hi hp hb)⟩
theorem Mp.set {p b A j : Nat} {w w1 : World} {v : Value} (h : Mp p b w w1) (hA : w.heap.size ≤ A) : Mp p b w (w1.setCell ⟨A, j, none⟩ v) :=
  ⟨h.os, h.tape, h.output, by simpa using h.size, fun i hi hp hb => (heap_setCell_other _ _ _ _ (by show i ≠ A; omega)).trans (h.block i hi hp hb)⟩
theorem Mp.grown {p b : Nat} {w w1 w2 : World} (h : Mp p b w w1) (k : w1.grownBy w2 (some b)) : Mp p b w w2 :=
  ⟨k.os.trans h.os, k.tape.trans h.tape, k.output.trans h.output, Nat.le_trans h.size k.size, fun i hi hp hb => (k.block i (Nat.lt_of_lt_of_le hi h.size) (fun e => hb (by injection e))).trans (h.block i hi hp hb)⟩
theorem Mp.below {p b B : Nat} {w w' : World} (h : Mp p b w w') (hp : B ≤ p) (hb : B ≤ b) (hB : B ≤ w.heap.size) : Below B w w' := ⟨h.os, h.tape, h.output, h.size, fun i hi => h.block i (by omega) (by omega) (by omega)⟩
theorem PL.lts {w : World} {p b n now : Nat} {q : Int} {f : ByteArray → Option Ses} (h : PL w p b n now q f) : p < w.heap.size ∧ b < w.heap.size := ⟨lt_of_rowR h.cells, h.map.lt⟩
theorem PL.keep {w w' : World} {p b n now : Nat} {q : Int} {f : ByteArray → Option Ses} (h : PL w p b n now q f) (e1 : w'.heap[p]? = w.heap[p]?) (e2 : w'.heap[b]? = w.heap[b]?) : PL w' p b n now q f :=
  ⟨e1.trans h.cells, h.map.kept e2, h.ids, h.nlt⟩
theorem PL.set {w : World} {p b n now A j : Nat} {q : Int} {f : ByteArray → Option Ses} {v : Value} (h : PL w p b n now q f) (hp : p ≠ A) (hb : b ≠ A) : PL (w.setCell ⟨A, j, none⟩ v) p b n now q f :=
  h.keep (heap_setCell_other _ _ _ _ hp) (heap_setCell_other _ _ _ _ hb)
theorem PL.grown {w w' : World} {p b n m now : Nat} {q : Int} {f g : ByteArray → Option Ses} (h : PL w p b n now q f) (k : w.grownBy w' (some b)) (hm : MapIs w' b m g) (hid : ∀ k s, g k = some s → s.id = k ∧ k.size ≤ 140737488351232) : PL w' p b m now q g :=
  ⟨(k.block p (lt_of_rowR h.cells) (fun e => h.ne (by injection e))).trans h.cells, hm, hid, h.nlt⟩

/-- the request's and the reply's blocks beside the store -/
structure St (w : World) (p b n now : Nat) (q : Int) (f : ByteArray → Option Ses) (r : Rq) (y : Rp) (W : World) : Prop where
  rq : W.heap[w.heap.size]? = some (.cells r.row 32 (0, 0))
  rp : W.heap[w.heap.size + 1]? = some (.cells y.row 41 (0, 0))
  pl : PL W p b n now q f
  mp : Mp p b w W
  hp : p < w.heap.size
  hb : b < w.heap.size
theorem St.start {w : World} {p b n now : Nat} {q : Int} {f : ByteArray → Option Ses} {r : Rq} (h : PL w p b n now q f) :
    St w p b n now q f r (Rp.bad 0) ((w.alloc (.cells r.row 32)).alloc (.cells (Rp.bad 0).row 41)) := by
  obtain ⟨a, c⟩ := two_newP w (.cells r.row 32) (.cells (Rp.bad 0).row 41)
  have hb := ((Below.refl w.heap.size w).alloc (Nat.le_refl _) (.cells r.row 32)).alloc (by rw [alloc_sizeR]; omega) (.cells (Rp.bad 0).row 41)
  exact ⟨a, c, h.below hb, Mp.of_below hb, h.lts.1, h.lts.2⟩
theorem St.below {w W V : World} {p b n now : Nat} {q : Int} {f : ByteArray → Option Ses} {r : Rq} {y : Rp} (h : St w p b n now q f r y W) (hb : Below W.heap.size W V) : St w p b n now q f r y V :=
  ⟨(hb.block _ (lt_of_rowR h.rq)).trans h.rq, (hb.block _ (lt_of_rowR h.rp)).trans h.rp, h.pl.below hb, h.mp.trans (Mp.of_below hb), h.hp, h.hb⟩
theorem St.set {w W : World} {p b n now A j : Nat} {q : Int} {f : ByteArray → Option Ses} {r : Rq} {y : Rp} {v : Value} (h : St w p b n now q f r y W) (hA : w.heap.size + 2 ≤ A) : St w p b n now q f r y (W.setCell ⟨A, j, none⟩ v) := by
  have := h.hp
  have := h.hb
  exact ⟨(heap_setCell_other _ _ _ _ (by show w.heap.size ≠ A; omega)).trans h.rq, (heap_setCell_other _ _ _ _ (by show w.heap.size + 1 ≠ A; omega)).trans h.rp, h.pl.set (by omega) (by omega), h.mp.set (by omega), h.hp, h.hb⟩
theorem St.grown {w W V : World} {p b n m now : Nat} {q : Int} {f g : ByteArray → Option Ses} {r : Rq} {y : Rp} (h : St w p b n now q f r y W) (k : W.grownBy V (some b)) (hm : MapIs V b m g) (hid : ∀ k s, g k = some s → s.id = k ∧ k.size ≤ 140737488351232) : St w p b m now q g r y V := by
  have := h.hb
  exact ⟨(k.block _ (lt_of_rowR h.rq) (fun e => by injection e; omega)).trans h.rq, (k.block _ (lt_of_rowR h.rp) (fun e => by injection e; omega)).trans h.rp, h.pl.grown k hm hid, h.mp.grown k, h.hp, h.hb⟩
theorem St.cells {w W : World} {p b n now : Nat} {q : Int} {f : ByteArray → Option Ses} {r : Rq} {y : Rp} (h : St w p b n now q f r y W) :
    W.cell? ⟨w.heap.size, 0, none⟩ = some (.int .i64 r.kind) ∧ W.cell? ⟨w.heap.size, 1, none⟩ = some (.string r.id) ∧ W.cell? ⟨w.heap.size, 2, none⟩ = some (.string r.va) ∧ W.cell? ⟨w.heap.size, 3, none⟩ = some (.float .f64 r.ttl) :=
  ⟨(cell_of_row _ _ 0 _ _ _ h.rq).trans rfl, (cell_of_row _ _ 1 _ _ _ h.rq).trans rfl, (cell_of_row _ _ 2 _ _ _ h.rq).trans rfl, (cell_of_row _ _ 3 _ _ _ h.rq).trans rfl⟩
theorem St.store {w W : World} {p b n now : Nat} {q : Int} {f : ByteArray → Option Ses} {r : Rq} {y : Rp} (h : St w p b n now q f r y W) :
    W.cell? ⟨p, 0, none⟩ = some (.int .u64 (now : Int)) ∧ W.cell? ⟨p, 1, none⟩ = some (.int .i64 q) ∧ W.cell? ⟨p, 2, none⟩ = some (.map (some b)) :=
  ⟨(cell_of_row _ _ 0 _ _ _ h.pl.cells).trans rfl, (cell_of_row _ _ 1 _ _ _ h.pl.cells).trans rfl, (cell_of_row _ _ 2 _ _ _ h.pl.cells).trans rfl⟩
theorem ids_upd {f : ByteArray → Option Ses} (h : ∀ k s, f k = some s → s.id = k ∧ k.size ≤ 140737488351232) (k : ByteArray) (s : Ses) (hs : s.id = k) (hk : k.size ≤ 140737488351232) : ∀ x t, upd f k (some s) x = some t → t.id = x ∧ x.size ≤ 140737488351232 := by
  intro x t ht
  unfold upd at ht
  by_cases hx : x = k
  · rw [if_pos hx] at ht
    injection ht with ht
    subst ht
    rw [hx]; exact ⟨hs, hk⟩
  · rw [if_neg hx] at ht
    exact h x t ht
theorem ids_del {f : ByteArray → Option Ses} (h : ∀ k s, f k = some s → s.id = k ∧ k.size ≤ 140737488351232) (k : ByteArray) : ∀ x t, upd f k none x = some t → t.id = x ∧ x.size ≤ 140737488351232 := by
  intro x t ht
  unfold upd at ht
  by_cases hx : x = k
  · rw [if_pos hx] at ht; cases ht
  · rw [if_neg hx] at ht; exact h x t ht
/-- the store's block behind an update -/
theorem ses_row (i v : ByteArray) (d : Nat) (W : World) (A : Nat) (h : W.heap[A]? = some (.cells #[.string i, .string v, .int .u64 (d : Int)] 70 (0, 0))) :
    W.cell? ⟨A, 0, none⟩ = some (.string i) ∧ W.cell? ⟨A, 1, none⟩ = some (.string v) ∧ W.cell? ⟨A, 2, none⟩ = some (.int .u64 (d : Int)) :=
  ⟨(cell_of_row _ _ 0 _ _ _ h).trans rfl, (cell_of_row _ _ 1 _ _ _ h).trans rfl, (cell_of_row _ _ 2 _ _ _ h).trans rfl⟩

theorem setRow_other (w : World) (g i : Nat) (cs : Array Value) (h : i ≠ g) : (w.setRow g cs).heap[i]? = w.heap[i]? := by
  show (w.heap.modify g _)[i]? = _
  rw [Array.getElem?_modify]
  rw [if_neg (fun e => h e.symm)]
theorem setRow_size (w : World) (g : Nat) (cs : Array Value) : (w.setRow g cs).heap.size = w.heap.size := by
  show (w.heap.modify g _).size = _
  rw [Array.size_modify]
theorem St.fin {w W : World} {p b n now : Nat} {q : Int} {f : ByteArray → Option Ses} {r : Rq} {y : Rp} (h : St w p b n now q f r y W) (cs : Array Value) :
    PL (W.setRow (w.heap.size + 1) cs) p b n now q f ∧ Mp p b w (W.setRow (w.heap.size + 1) cs) := by
  have h1 := h.hp
  have h2 := h.hb
  refine ⟨h.pl.keep (setRow_other _ _ _ _ (by omega)) (setRow_other _ _ _ _ (by omega)), h.mp.os, h.mp.tape, h.mp.output, by rw [setRow_size]; exact h.mp.size, fun i hi hp hb => (setRow_other _ _ _ _ (by omega)).trans (h.mp.block i hi hp hb)⟩

set_option maxRecDepth 100000 in
set_option maxHeartbeats 4000000 in
theorem touch_val (w : World) (p b n now : Nat) (q : Int) (f : ByteArray → Option Ses) (r : Rq) (s : Ses) (h : PL w p b n now q f) (hr : r.Kind) (hn : n < 1000000) (hs : f r.id = some s) :
    Calls Try.prog 32 #[.pointer (some ⟨p, 0, none⟩), .agg r.row] w fun e w' => e = .returned (.agg (Rp.mk 0 ⟨#[]⟩ (ddl now r)).row) ∧ PL w' p b (n + 1) now q (upd f r.id (some ⟨r.id, s.va, ddl now r⟩)) ∧ Mp p b w w' := by
  have hst := St.start (r := r) h
  have hrid := hr.id
  have hsid := (h.ids _ _ hs).1
  obtain ⟨d, hd⟩ : ∃ d, d = ddl now r := ⟨_, rfl⟩
  have hfind := fun W (hW : PL W p b n now q f) => find_val W p b n now q f r.id hW hrid
  rw [hs] at hfind
  simp only [Option.getD_some] at hfind
  have hdead := fun W (hW : PL W p b n now q f) => dead_val W p b n now q f r hW hr
  rw [← hd] at hdead ⊢
  obtain ⟨z, hz⟩ : ∃ z, z = liv now f r.id := ⟨_, rfl⟩
  rw [← hz] at hfind
  have hids := ids_upd h.ids r.id ⟨r.id, s.va, d⟩ rfl hrid
  obtain ⟨f', hf'⟩ : ∃ f', f' = upd f r.id (some ⟨r.id, s.va, d⟩) := ⟨_, rfl⟩
  obtain ⟨k, i, v, x⟩ := r
  obtain ⟨si, sv, sd⟩ := s
  simp only [Rq.row, Ses.row, Rp.row, Rp.bad] at hfind hdead hst hids hrid hsid hf' ⊢
  rw [← hf'] at hids ⊢
  subst hsid
  have ST := Lib.hid hst
  have HF := Lib.hid hfind
  have HD := Lib.hid hdead
  have HI := Lib.hid hids
  have HF' := Lib.hid hf'
  have HP := Lib.hid h
  clear h hst hfind hdead hs hz hd hids hf'
  go_enter Try.func32, Try.ntmps32
  go_wp2_with fail
  have ff := HF.out _ ST.out.pl
  refine ff.mono ?_; rintro e w3 ⟨rfl, b3⟩
  clear ff
  have s3 := ST.out.below b3
  have s4 := s3.below ((Below.refl w3.heap.size w3).alloc (Nat.le_refl _) (.cells #[.string si, .string sv, .int .u64 (sd : Int)] 70))
  have n4 := heap_alloc_new w3 (.cells #[.string si, .string sv, .int .u64 (sd : Int)] 70)
  have S3 := Lib.hid s3
  have S4 := Lib.hid s4
  have N4 := Lib.hid n4
  have hA : w.heap.size + 2 ≤ w3.heap.size := by have := lt_of_rowR s3.rp; omega
  obtain ⟨c0, c1, c2, c3⟩ := S4.out.cells
  clear b3 s3 s4 n4
  go_wp2_with fail
  clear c0 c1 c2 c3
  obtain ⟨A, hAe⟩ : ∃ A, A = w3.heap.size := ⟨_, rfl⟩
  obtain ⟨W4, hW4⟩ : ∃ W, W = w3.alloc (.cells #[.string si, .string sv, .int .u64 (sd : Int)] 70) := ⟨_, rfl⟩
  rw [← hW4] at S4 N4
  simp only [← hW4, ← hAe] at N4 hA ⊢
  have hlt4 := lt_of_rowR N4.out
  clear hW4 hAe S3
  have dd := HD.out _ S4.out.pl
  refine dd.mono ?_; rintro e w5 ⟨rfl, b5⟩
  have s5 := S4.out.below b5
  have n5 := (b5.block _ hlt4).trans N4.out
  obtain ⟨e0, e1, e2⟩ := ses_row _ _ _ _ _ n5
  have fz := frozen_of_row w5 A 2 _ _ n5
  obtain ⟨W6, hW6⟩ : ∃ W, W = w5.setCell ⟨A, 2, none⟩ (.int .u64 (d : Int)) := ⟨_, rfl⟩
  have s6 := s5.set (A := A) (j := 2) (v := .int .u64 (d : Int)) (by omega)
  have n6 := heap_setCell_same w5 A 2 _ _ (.int .u64 (d : Int)) n5
  rw [← hW6] at s6 n6
  have S6 := Lib.hid s6
  have N6 : Hid (W6.heap[A]? = some (.cells #[.string si, .string sv, .int .u64 (d : Int)] 70 (0, 0))) := Lib.hid (by rw [n6]; rfl)
  have HW6 := Lib.hid hW6
  clear dd b5 s5 n5 s6 n6 hW6 S4 N4
  go_wp2_with fail
  rw [← HW6.out]
  clear e0 e1 e2 fz HW6
  obtain ⟨d0, d1, d2⟩ := ses_row _ _ _ _ _ N6.out
  obtain ⟨c0, c1, c2, c3⟩ := S6.out.cells
  obtain ⟨p0, p1, p2⟩ := S6.out.store
  have hms : MapIs W6.drew b n f := S6.out.pl.map.kept rfl
  obtain ⟨w7, hrun, hm7, hg7, hz7⟩ := hms.store (by omega) si hrid ⟨si, sv, d⟩
  simp only [Ses.row] at hrun
  rw [← HF'.out] at hm7
  have hg7' : W6.grownBy w7 (some b) := ⟨hg7.os, hg7.tape, hg7.output, hg7.size, hg7.block⟩
  have s7 := S6.out.grown hg7' hm7 HI.out
  have n7 := (hg7'.block A (lt_of_rowR N6.out) (fun e => by injection e with e; have := S6.out.hb; omega)).trans N6.out
  have S7 := Lib.hid s7
  have N7 := Lib.hid n7
  clear hms hm7 hg7 hz7 hg7' s7 n7
  go_wp2_with fail
  go_region
  clear d0 d1 d2 c0 c1 c2 c3 p0 p1 p2
  obtain ⟨d0, d1, d2⟩ := ses_row _ _ _ _ _ N7.out
  have ONE : Hid ((#[.int .i64 0, .string ⟨#[]⟩, .int .u64 (d : Int)] : Array Value).all (·.oneCell') = true) := Lib.hid (by simp [Value.oneCell'])
  have hrow := setRow_heap w7 (w.heap.size + 1) _ #[.int .i64 0, .string ⟨#[]⟩, .int .u64 (d : Int)] _ _ S7.out.rp
  have HROW := Lib.hid hrow
  clear hrow
  go_wp2_with (refine wpList_store_row rfl 41 _ _ rfl (w.heap.size + 1) #[.int .i64 0, .string ⟨#[]⟩, .int .u64 (d : Int)] rfl rfl _ _ S7.out.rp (by kernel_rfl) rfl ONE.out ?_)
  refine bodyPost_ret (v := .agg #[.int .i64 0, .string ⟨#[]⟩, .int .u64 (d : Int)]) ?_ rfl ⟨rfl, S7.out.fin _⟩
  exact results_cell_row (p := 4) (ty := 41) rfl _ _ (w.heap.size + 1) 41 _ (0, 0) _ rfl HROW.out Try.underlying41 rfl (by kernel_rfl)
end Go.Proofs.Ytmbidannodelfaa.G
