/- What is asked of a store: get, put, destroy. -/
import Derived.Test.YtmbidannodelfaaPu
namespace Go.Proofs.Ytmbidannodelfaa.G
open Go.RowKit Go.Maps Go.Proofs.Ytmbidannodelfaa.WordPlain Go.Proofs.Ytmbidannodelfaa.Loose
set_option linter.unusedVariables false
set_option linter.unusedSimpArgs false

theorem alloc_setCellR (w : World) (cs : Array Value) (t : TypeId) (j : Nat) (v : Value) : (w.alloc (.cells cs t)).setCell ⟨w.heap.size, j, none⟩ v = w.alloc (.cells (cs.setIfInBounds j v) t) := by
  go_simp
set_option maxRecDepth 100000 in
set_option maxHeartbeats 4000000 in
theorem get_val (w : World) (p b n now : Nat) (q : Int) (f : ByteArray → Option Ses) (r : Rq) (s : Ses) (h : PL w p b n now q f) (hr : r.Kind) (hs : f r.id = some s) :
    Calls Try.prog 31 #[.pointer (some ⟨p, 0, none⟩), .agg r.row] w fun e w' => e = .returned (.agg (Rp.mk 0 s.va s.dl).row) ∧ PL w' p b n now q f ∧ Mp p b w w' := by
  have hst := St.start (r := r) h
  have hrid := hr.id
  have hsid := (h.ids _ _ hs).1
  have hfind := fun W (hW : PL W p b n now q f) => find_val W p b n now q f r.id hW hrid
  rw [hs] at hfind
  simp only [Option.getD_some] at hfind
  obtain ⟨z, hz⟩ : ∃ z, z = liv now f r.id := ⟨_, rfl⟩
  rw [← hz] at hfind
  obtain ⟨k, i, v, x⟩ := r
  obtain ⟨si, sv, sd⟩ := s
  simp only [Rq.row, Ses.row, Rp.row, Rp.bad] at hfind hst hrid hsid ⊢
  subst hsid
  have ST := Lib.hid hst
  have HF := Lib.hid hfind
  have HP := Lib.hid h
  clear h hst hfind hs hz
  go_enter Try.func31, Try.ntmps31
  go_wp2_with fail
  have ff := HF.out _ ST.out.pl
  refine ff.mono ?_; rintro e w3 ⟨rfl, b3⟩
  clear ff
  have s3 := ST.out.below b3
  have s4 := s3.below ((Below.refl w3.heap.size w3).alloc (Nat.le_refl _) (.cells #[.string si, .string sv, .int .u64 (sd : Int)] 70))
  have n4 := heap_alloc_new w3 (.cells #[.string si, .string sv, .int .u64 (sd : Int)] 70)
  have S4 := Lib.hid s4
  have N4 := Lib.hid n4
  have hA : w.heap.size + 2 ≤ w3.heap.size := by have := lt_of_rowR s3.rp; omega
  obtain ⟨d0, d1, d2⟩ := ses_row _ _ _ _ _ N4.out
  clear b3 s3 s4 n4
  have ONE : Hid ((#[.int .i64 0, .string sv, .int .u64 (sd : Int)] : Array Value).all (·.oneCell') = true) := Lib.hid (by simp [Value.oneCell'])
  have hrow := setRow_heap (w3.alloc (.cells #[.string si, .string sv, .int .u64 (sd : Int)] 70)) (w.heap.size + 1) _ #[.int .i64 0, .string sv, .int .u64 (sd : Int)] _ _ S4.out.rp
  have HROW := Lib.hid hrow
  clear hrow
  go_wp2_with (refine wpList_store_row rfl 41 _ _ rfl (w.heap.size + 1) #[.int .i64 0, .string sv, .int .u64 (sd : Int)] rfl rfl _ _ S4.out.rp (by kernel_rfl) rfl ONE.out ?_)
  refine bodyPost_ret (v := .agg #[.int .i64 0, .string sv, .int .u64 (sd : Int)]) ?_ rfl ⟨rfl, S4.out.fin _⟩
  exact results_cell_row (p := 4) (ty := 41) rfl _ _ (w.heap.size + 1) 41 _ (0, 0) _ rfl HROW.out Try.underlying41 rfl (by kernel_rfl)

set_option maxRecDepth 100000 in
set_option maxHeartbeats 4000000 in
theorem put_val (w : World) (p b n now : Nat) (q : Int) (f : ByteArray → Option Ses) (r : Rq) (s : Ses) (h : PL w p b n now q f) (hr : r.Kind) (hn : n < 1000000) (hs : f r.id = some s) :
    Calls Try.prog 33 #[.pointer (some ⟨p, 0, none⟩), .agg r.row] w fun e w' => e = .returned (.agg (Rp.bad 0).row) ∧ PL w' p b (n + 1) now q (upd f r.id (some ⟨r.id, r.va, s.dl⟩)) ∧ Mp p b w w' := by
  have hst := St.start (r := r) h
  have hrid := hr.id
  have hsid := (h.ids _ _ hs).1
  have hfind := fun W (hW : PL W p b n now q f) => find_val W p b n now q f r.id hW hrid
  rw [hs] at hfind
  simp only [Option.getD_some] at hfind
  obtain ⟨z, hz⟩ : ∃ z, z = liv now f r.id := ⟨_, rfl⟩
  rw [← hz] at hfind
  have hids := ids_upd h.ids r.id ⟨r.id, r.va, s.dl⟩ rfl hrid
  obtain ⟨f', hf'⟩ : ∃ f', f' = upd f r.id (some ⟨r.id, r.va, s.dl⟩) := ⟨_, rfl⟩
  obtain ⟨k, i, v, x⟩ := r
  obtain ⟨si, sv, sd⟩ := s
  simp only [Rq.row, Ses.row, Rp.row, Rp.bad] at hfind hst hrid hsid hids hf' ⊢
  rw [← hf'] at hids ⊢
  subst hsid
  have ST := Lib.hid hst
  have HF := Lib.hid hfind
  have HP := Lib.hid h
  have HI := Lib.hid hids
  have HF' := Lib.hid hf'
  clear h hst hfind hs hz hids hf'
  go_enter Try.func33, Try.ntmps33
  go_wp2_with fail
  have ff := HF.out _ ST.out.pl
  refine ff.mono ?_; rintro e w3 ⟨rfl, b3⟩
  clear ff
  have s3 := ST.out.below b3
  have s4 := s3.below ((Below.refl w3.heap.size w3).alloc (Nat.le_refl _) (.cells #[.string si, .string sv, .int .u64 (sd : Int)] 70))
  have n4 := heap_alloc_new w3 (.cells #[.string si, .string sv, .int .u64 (sd : Int)] 70)
  have S4 := Lib.hid s4
  have N4 := Lib.hid n4
  have hA : w.heap.size + 2 ≤ w3.heap.size := by have := lt_of_rowR s3.rp; omega
  obtain ⟨c0, c1, c2, c3⟩ := S4.out.cells
  obtain ⟨e0, e1, e2⟩ := ses_row _ _ _ _ _ N4.out
  have fz := frozen_of_row _ _ 1 _ _ N4.out
  obtain ⟨W6, hW6⟩ : ∃ W, W = (w3.alloc (.cells #[.string si, .string sv, .int .u64 (sd : Int)] 70)).setCell ⟨w3.heap.size, 1, none⟩ (.string v) := ⟨_, rfl⟩
  have s6 := s4.set (A := w3.heap.size) (j := 1) (v := .string v) hA
  have n6 := heap_setCell_same (w3.alloc (.cells #[.string si, .string sv, .int .u64 (sd : Int)] 70)) w3.heap.size 1 _ _ (.string v) n4
  have hal := alloc_setCellR w3 #[.string si, .string sv, .int .u64 (sd : Int)] 70 1 (.string v)
  rw [← hW6] at s6 n6 hal
  have S6 := Lib.hid s6
  have N6 : Hid (W6.heap[w3.heap.size]? = some (.cells #[.string si, .string v, .int .u64 (sd : Int)] 70 (0, 0))) := Lib.hid (by rw [n6]; rfl)
  have HW6 : Hid (W6 = w3.alloc (.cells #[.string si, .string v, .int .u64 (sd : Int)] 70)) := Lib.hid hal
  clear b3 s3 s4 n4 s6 n6 hW6 hal S4 N4
  go_wp2_with fail
  rw [← HW6.out]
  clear e0 e1 e2 fz c0 c1 c2 c3
  obtain ⟨A, hAe⟩ : ∃ A, A = w3.heap.size := ⟨_, rfl⟩
  simp only [← hAe] at N6 hA ⊢
  clear hAe HW6
  obtain ⟨d0, d1, d2⟩ := ses_row _ _ _ _ _ N6.out
  obtain ⟨c0, c1, c2, c3⟩ := S6.out.cells
  obtain ⟨p0, p1, p2⟩ := S6.out.store
  have hms : MapIs W6.drew b n f := S6.out.pl.map.kept rfl
  obtain ⟨w7, hrun, hm7, hg7, hz7⟩ := hms.store (by omega) si hrid ⟨si, v, sd⟩
  simp only [Ses.row] at hrun
  rw [← HF'.out] at hm7
  have hg7' : W6.grownBy w7 (some b) := ⟨hg7.os, hg7.tape, hg7.output, hg7.size, hg7.block⟩
  have s7 := S6.out.grown hg7' hm7 HI.out
  have S7 := Lib.hid s7
  clear hms hm7 hg7 hz7 hg7' s7
  go_wp2_with fail
  go_region
  clear d0 d1 d2 c0 c1 c2 c3 p0 p1 p2
  have ONE : Hid ((#[.int .i64 0, .string ⟨#[]⟩, .int .u64 0] : Array Value).all (·.oneCell') = true) := Lib.hid (by simp [Value.oneCell'])
  have hrow := setRow_heap w7 (w.heap.size + 1) _ #[.int .i64 0, .string ⟨#[]⟩, .int .u64 0] _ _ S7.out.rp
  have HROW := Lib.hid hrow
  clear hrow
  go_wp2_with (refine wpList_store_row rfl 41 _ _ rfl (w.heap.size + 1) #[.int .i64 0, .string ⟨#[]⟩, .int .u64 0] rfl rfl _ _ S7.out.rp (by kernel_rfl) rfl ONE.out ?_)
  refine bodyPost_ret (v := .agg #[.int .i64 0, .string ⟨#[]⟩, .int .u64 0]) ?_ rfl ⟨rfl, S7.out.fin _⟩
  exact results_cell_row (p := 4) (ty := 41) rfl _ _ (w.heap.size + 1) 41 _ (0, 0) _ rfl HROW.out Try.underlying41 rfl (by kernel_rfl)

set_option maxRecDepth 100000 in
set_option maxHeartbeats 4000000 in
theorem destroy_val (w : World) (p b n now : Nat) (q : Int) (f : ByteArray → Option Ses) (r : Rq) (h : PL w p b n now q f) (hr : r.Kind) :
    Calls Try.prog 34 #[.pointer (some ⟨p, 0, none⟩), .agg r.row] w fun e w' => e = .returned (.agg (Rp.bad 0).row) ∧ PL w' p b n now q (upd f r.id none) ∧ Mp p b w w' := by
  have hst := St.start (r := r) h
  have hrid := hr.id
  have hids := ids_del h.ids r.id
  obtain ⟨f', hf'⟩ : ∃ f', f' = upd f r.id none := ⟨_, rfl⟩
  obtain ⟨k, i, v, x⟩ := r
  simp only [Rq.row, Rp.row, Rp.bad] at hst hrid hids hf' ⊢
  rw [← hf'] at hids ⊢
  have hst : St w p b n now q f ⟨k, i, v, x⟩ ⟨0, ⟨#[]⟩, 0⟩ ((w.alloc (.cells #[.int .i64 k, .string i, .string v, .float .f64 x] 32)).alloc (.cells #[.int .i64 0, .string ⟨#[]⟩, .int .u64 0] 41)) := hst
  have S6 := Lib.hid hst
  have HI := Lib.hid hids
  have HF' := Lib.hid hf'
  clear h hst hids hf'
  obtain ⟨W6, hW6⟩ : ∃ W, W = ((w.alloc (.cells #[.int .i64 k, .string i, .string v, .float .f64 x] 32)).alloc (.cells #[.int .i64 0, .string ⟨#[]⟩, .int .u64 0] 41)) := ⟨_, rfl⟩
  rw [← hW6] at S6
  have HW6 := Lib.hid hW6
  clear hW6
  go_enter Try.func34, Try.ntmps34
  go_wp2_with fail
  rw [← HW6.out]
  obtain ⟨c0, c1, c2, c3⟩ := S6.out.cells
  obtain ⟨p0, p1, p2⟩ := S6.out.store
  have hms : MapIs W6.drew b n f := S6.out.pl.map.kept rfl
  obtain ⟨w7, hrun, hm7, hg7, hz7⟩ := hms.drop i hrid 0
  rw [← HF'.out] at hm7
  have hg7' : W6.grownBy w7 (some b) := ⟨hg7.os, hg7.tape, hg7.output, hg7.size, hg7.block⟩
  have s7 := S6.out.grown hg7' hm7 HI.out
  have S7 := Lib.hid s7
  clear hms hm7 hg7 hz7 hg7' s7 HW6
  go_region
  clear c0 c1 c2 c3 p0 p1 p2
  have ONE : Hid ((#[.int .i64 0, .string ⟨#[]⟩, .int .u64 0] : Array Value).all (·.oneCell') = true) := Lib.hid (by simp [Value.oneCell'])
  have hrow := setRow_heap w7 (w.heap.size + 1) _ #[.int .i64 0, .string ⟨#[]⟩, .int .u64 0] _ _ S7.out.rp
  have HROW := Lib.hid hrow
  clear hrow
  go_wp2_with (refine wpList_store_row rfl 41 _ _ rfl (w.heap.size + 1) #[.int .i64 0, .string ⟨#[]⟩, .int .u64 0] rfl rfl _ _ S7.out.rp (by kernel_rfl) rfl ONE.out ?_)
  refine bodyPost_ret (v := .agg #[.int .i64 0, .string ⟨#[]⟩, .int .u64 0]) ?_ rfl ⟨rfl, S7.out.fin _⟩
  exact results_cell_row (p := 4) (ty := 41) rfl _ _ (w.heap.size + 1) 41 _ (0, 0) _ rfl HROW.out Try.underlying41 rfl (by kernel_rfl)
end Go.Proofs.Ytmbidannodelfaa.G
