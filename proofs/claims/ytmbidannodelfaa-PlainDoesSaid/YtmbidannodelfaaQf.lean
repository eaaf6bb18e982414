/- The document's store: what is asked is done, way by way. -/
import Derived.Test.YtmbidannodelfaaQc
import Derived.Test.YtmbidannodelfaaQe
import Derived.Test.YtmbidannodelfaaGFast
import Derived.BigQuiet
import Derived.Maps.AppendAt
namespace Go.Proofs.Ytmbidannodelfaa.G
open Go.RowKit Go.Maps Go.Proofs.Ytmbidannodelfaa.WordPlain Go.Proofs.Ytmbidannodelfaa.Loose
set_option linter.unusedVariables false
set_option linter.unusedSimpArgs false

/-- another block of three cells, a number first, is written -/
theorem RPl.other {W : World} {P now A : Nat} {q : Int} {L : List Ses} {ye yd : Int} {yv : ByteArray} {ty : TypeId} {ki ku : IntKind} (h : RPl W P now q L) (hA : W.heap[A]? = some (.cells #[.int ki ye, .string yv, .int ku yd] ty (0, 0))) (hne : A ≠ P) (cs : Array Value) : RPl (W.setRow A cs) P now q L := by
  obtain ⟨v, hb, oa, cap, h1, h2, h3⟩ := h
  refine ⟨v, (setRow_other _ _ _ _ (fun e => hne e.symm)).trans hb, oa, cap, h1, h2, fun i hi => ?_⟩
  obtain ⟨b', off, h4, h5⟩ := h3 i hi
  have h50 := h5 0 _ rfl
  have h51 := h5 1 _ rfl
  have hp : b' ≠ A := by
    rintro rfl
    rw [cell_of_row W b' (off + i * 3 + 0) _ _ (0, 0) hA] at h50
    rw [cell_of_row W b' (off + i * 3 + 1) _ _ (0, 0) hA] at h51
    match hj : off + i * 3 + 0 with
    | 0 => rw [hj] at h50; cases h50
    | 1 => rw [show off + i * 3 + 1 = 2 by omega] at h51; cases h51
    | 2 => rw [hj] at h50; cases h50
    | j + 3 => rw [hj] at h50; simp at h50
  exact ⟨b', off, h4, fun j u hu => (World.cell?_of_block (a := ⟨b', off + i * 3 + j, none⟩) (setRow_other _ _ _ _ hp)).trans (h5 j u hu)⟩

/-- the request's and the reply's blocks beside the document's store -/
structure RSt (w : World) (P now : Nat) (q : Int) (L : List Ses) (r : Rq) (W : World) : Prop where
  rq : W.heap[w.heap.size]? = some (.cells r.row 44 (0, 0))
  rp : W.heap[w.heap.size + 1]? = some (.cells #[.int .i64 0, .string ⟨#[]⟩, .int .u64 0] 39 (0, 0))
  pl : RPl W P now q L
  mp : Mp P P w W
  hp : P < w.heap.size
theorem RSt.start {w : World} {P now : Nat} {q : Int} {L : List Ses} {r : Rq} (h : RPl w P now q L) :
    RSt w P now q L r ((w.alloc (.cells r.row 44)).alloc (.cells #[.int .i64 0, .string ⟨#[]⟩, .int .u64 0] 39)) := by
  obtain ⟨a, c⟩ := two_newP w (.cells r.row 44) (.cells #[.int .i64 0, .string ⟨#[]⟩, .int .u64 0] 39)
  have hb := ((Below.refl w.heap.size w).alloc (Nat.le_refl _) (.cells r.row 44)).alloc (by rw [alloc_sizeR]; omega) (.cells #[.int .i64 0, .string ⟨#[]⟩, .int .u64 0] 39)
  exact ⟨a, c, h.below hb, Mp.of_below hb, h.lt⟩
theorem RSt.below {w W V : World} {P now : Nat} {q : Int} {L : List Ses} {r : Rq} (h : RSt w P now q L r W) (hb : Below W.heap.size W V) : RSt w P now q L r V :=
  ⟨(hb.block _ (lt_of_rowR h.rq)).trans h.rq, (hb.block _ (lt_of_rowR h.rp)).trans h.rp, h.pl.below hb, h.mp.trans (Mp.of_below hb), h.hp⟩
theorem RSt.call {w W V : World} {P now : Nat} {q : Int} {L M : List Ses} {r : Rq} (h : RSt w P now q L r W) (hl : RPl V P now q M) (hm : Mp P P W V) : RSt w P now q M r V := by
  have := h.hp
  exact ⟨(hm.block _ (lt_of_rowR h.rq) (by omega) (by omega)).trans h.rq, (hm.block _ (lt_of_rowR h.rp) (by omega) (by omega)).trans h.rp, hl, h.mp.trans hm, h.hp⟩
theorem RSt.cells {w W : World} {P now : Nat} {q : Int} {L : List Ses} {r : Rq} (h : RSt w P now q L r W) :
    W.cell? ⟨w.heap.size, 0, none⟩ = some (.int .i64 r.kind) ∧ W.cell? ⟨w.heap.size, 1, none⟩ = some (.string r.id) ∧ W.cell? ⟨w.heap.size, 2, none⟩ = some (.string r.va) ∧ W.cell? ⟨w.heap.size, 3, none⟩ = some (.float .f64 r.ttl) :=
  ⟨(cell_of_row _ _ 0 _ _ _ h.rq).trans rfl, (cell_of_row _ _ 1 _ _ _ h.rq).trans rfl, (cell_of_row _ _ 2 _ _ _ h.rq).trans rfl, (cell_of_row _ _ 3 _ _ _ h.rq).trans rfl⟩
theorem RSt.fin {w W : World} {P now : Nat} {q : Int} {L : List Ses} {r : Rq} (h : RSt w P now q L r W) (cs : Array Value) :
    RPl (W.setRow (w.heap.size + 1) cs) P now q L ∧ Mp P P w (W.setRow (w.heap.size + 1) cs) := by
  have h1 := h.hp
  exact ⟨h.pl.other h.rp (by omega) cs, h.mp.os, h.mp.tape, h.mp.output, by rw [setRow_size]; exact h.mp.size, fun i hi hp hb => (setRow_other _ _ _ _ (by omega)).trans (h.mp.block i hi hp hb)⟩
theorem rses_row (i v : ByteArray) (d : Nat) (W : World) (A : Nat) (h : W.heap[A]? = some (.cells #[.string i, .string v, .int .u64 (d : Int)] 79 (0, 0))) :
    W.cell? ⟨A, 0, none⟩ = some (.string i) ∧ W.cell? ⟨A, 1, none⟩ = some (.string v) ∧ W.cell? ⟨A, 2, none⟩ = some (.int .u64 (d : Int)) :=
  ⟨(cell_of_row _ _ 0 _ _ _ h).trans rfl, (cell_of_row _ _ 1 _ _ _ h).trans rfl, (cell_of_row _ _ 2 _ _ _ h).trans rfl⟩

set_option maxRecDepth 100000 in
set_option maxHeartbeats 4000000 in
theorem rDo_bad (w : World) (P now : Nat) (q : Int) (L : List Ses) (r : Rq) (ve : Int) (h : RPl w P now q L) (hr : r.Kind) (hve : ve = validE r) (hne : (ve != 0) = true) :
    Calls Try.prog 15 #[.pointer (some ⟨P, 0, none⟩), .agg r.row] w fun e w' => e = .returned (.agg (Rp.bad ve).row) ∧ RPl w' P now q L ∧ Mp P P w w' := by
  have hst := RSt.start (r := r) h
  have hval := fun W => rValid_val r W hr
  rw [← hve] at hval
  clear hve hr
  obtain ⟨k, i, v, x⟩ := r
  simp only [Rq.row, Rp.row, Rp.bad] at hst hval ⊢
  have ST := Lib.hid hst
  have HV := Lib.hid hval
  clear h hst hval
  go_enter Try.func15, Try.ntmps15
  go_wp2_with fail
  refine (HV.out _).mono ?_; rintro e w2 ⟨rfl, b2⟩
  have s2 := ST.out.below b2
  have S2 := Lib.hid s2
  clear b2 s2
  have ONE : Hid ((#[.int .i64 ve, .string ⟨#[]⟩, .int .u64 0] : Array Value).all (·.oneCell') = true) := Lib.hid (by simp [Value.oneCell'])
  have hrow := setRow_heap w2 (w.heap.size + 1) _ #[.int .i64 ve, .string ⟨#[]⟩, .int .u64 0] _ _ S2.out.rp
  have HROW := Lib.hid hrow
  clear hrow
  go_wp2_with (refine wpList_store_row rfl 39 _ _ rfl (w.heap.size + 1) #[.int .i64 ve, .string ⟨#[]⟩, .int .u64 0] rfl rfl _ _ S2.out.rp (by kernel_rfl) rfl ONE.out ?_)
  refine bodyPost_ret (v := .agg #[.int .i64 ve, .string ⟨#[]⟩, .int .u64 0]) ?_ rfl ⟨rfl, S2.out.fin _⟩
  exact results_cell_row (p := 4) (ty := 39) rfl _ _ (w.heap.size + 1) 39 _ (0, 0) _ rfl HROW.out Try.underlying39 rfl (by kernel_rfl)

set_option maxRecDepth 100000 in
set_option maxHeartbeats 4000000 in
theorem rDo_twice (w : World) (P now d : Nat) (q : Int) (L : List Ses) (r : Rq) (m : Nat) (h : RPl w P now q L) (hr : r.Kind) (hnow : now < 18446744073709551616) (hl : L.length ≤ 100000) (hd : d = ddl now r) (hve : validE r = 0) (hk : r.kind = 0) (hf : ∀ W, RPl W P now q L → Calls Try.prog 35 #[.pointer (some ⟨P, 0, none⟩), .string r.id] W fun e w' => e = .returned (.int .i64 (m : Int)) ∧ Below W.heap.size W w') :
    Calls Try.prog 15 #[.pointer (some ⟨P, 0, none⟩), .agg r.row] w fun e w' => e = .returned (.agg (Rp.bad 4).row) ∧ RPl w' P now q L ∧ Mp P P w w' := by
  have hst := RSt.start (r := r) h
  have hval := fun W => rValid_val r W hr
  rw [hve] at hval
  have htk := fun W => rTicks_val r.ttl W hr.ttl
  have hla := fun W => rLater_val now (F.tickV r.ttl) d W hnow (tickV_lt _) (Lib.hid hd)
  obtain ⟨tv, htv⟩ : ∃ x, x = F.tickV r.ttl := ⟨_, rfl⟩
  obtain ⟨te, hte⟩ : ∃ x, x = F.tickE r.ttl := ⟨_, rfl⟩
  simp only [← htv, ← hte] at htk hla
  clear htv hte hve hd hr hnow
  obtain ⟨k, i, v, x⟩ := r
  simp only [Rq.row, Rp.row, Rp.bad] at hst hval htk hf hk ⊢
  subst hk
  have ST := Lib.hid hst
  have HV := Lib.hid hval
  have HTK := Lib.hid htk
  have HLA := Lib.hid hla
  have HF := Lib.hid hf
  have HL := Lib.hid hl
  clear h hst hval htk hla hf hl
  go_enter Try.func15, Try.ntmps15
  go_wp2_with fail
  refine (HV.out _).mono ?_; rintro e w2 ⟨rfl, b2⟩
  have s2 := ST.out.below b2
  have S2 := Lib.hid s2
  clear b2 s2
  obtain ⟨c0, c1, c2, c3⟩ := S2.out.cells
  go_wp2_with fail
  clear c0 c1 c2 c3
  refine (HF.out _ S2.out.pl).mono ?_; rintro e w3 ⟨rfl, b3⟩
  have s3 := S2.out.below b3
  have S3 := Lib.hid s3
  clear b3 s3 S2 ST HV
  obtain ⟨c0, c1, c2, c3⟩ := S3.out.cells
  obtain ⟨vl, hrow, hlr⟩ := S3.out.pl
  obtain ⟨oa, cap, hvl, hc0, hx⟩ := hlr
  obtain ⟨n, hn⟩ : ∃ n, n = L.length := ⟨_, rfl⟩
  rw [← hn] at hvl
  subst hvl
  have p0 := (cell_of_row _ _ 0 _ _ _ hrow).trans (show _ = some (.int .u64 (now : Int)) from rfl)
  have HX := Lib.hid hx
  have HN := Lib.hid hn
  have HR := Lib.hid hrow
  have HC0 := Lib.hid hc0
  clear hx hn hrow hc0
  go_wp2_with fail
  refine (HTK.out _).mono ?_; rintro e w4 ⟨rfl, rfl⟩
  go_wp2_with fail
  refine (HLA.out _).mono ?_; rintro e w4 ⟨rfl, rfl⟩
  have ONE : Hid ((#[.int .i64 4, .string ⟨#[]⟩, .int .u64 0] : Array Value).all (·.oneCell') = true) := Lib.hid (by simp [Value.oneCell'])
  have hrow := setRow_heap w3 (w.heap.size + 1) _ #[.int .i64 4, .string ⟨#[]⟩, .int .u64 0] _ _ S3.out.rp
  have HROW := Lib.hid hrow
  clear hrow
  go_wp2_with (refine wpList_store_row rfl 39 _ _ rfl (w.heap.size + 1) #[.int .i64 4, .string ⟨#[]⟩, .int .u64 0] rfl rfl _ _ S3.out.rp (by kernel_rfl) rfl ONE.out ?_)
  refine bodyPost_ret (v := .agg #[.int .i64 4, .string ⟨#[]⟩, .int .u64 0]) ?_ rfl ⟨rfl, S3.out.fin _⟩
  exact results_cell_row (p := 4) (ty := 39) rfl _ _ (w.heap.size + 1) 39 _ (0, 0) _ rfl HROW.out Try.underlying39 rfl (by kernel_rfl)

set_option maxRecDepth 100000 in
set_option maxHeartbeats 4000000 in
theorem rDo_quota (w : World) (P now d : Nat) (q : Int) (L : List Ses) (r : Rq) (h : RPl w P now q L) (hr : r.Kind) (hnow : now < 18446744073709551616) (hl : L.length ≤ 100000) (hd : d = ddl now r) (hve : validE r = 0) (hk : r.kind = 0) (hf : ∀ W, RPl W P now q L → Calls Try.prog 35 #[.pointer (some ⟨P, 0, none⟩), .string r.id] W fun e w' => e = .returned (.int .i64 (-1)) ∧ Below W.heap.size W w') (hq : q ≤ (L.length : Int)) :
    Calls Try.prog 15 #[.pointer (some ⟨P, 0, none⟩), .agg r.row] w fun e w' => e = .returned (.agg (Rp.bad 7).row) ∧ RPl w' P now q L ∧ Mp P P w w' := by
  have hst := RSt.start (r := r) h
  have hval := fun W => rValid_val r W hr
  rw [hve] at hval
  have htk := fun W => rTicks_val r.ttl W hr.ttl
  have hla := fun W => rLater_val now (F.tickV r.ttl) d W hnow (tickV_lt _) (Lib.hid hd)
  obtain ⟨tv, htv⟩ : ∃ x, x = F.tickV r.ttl := ⟨_, rfl⟩
  obtain ⟨te, hte⟩ : ∃ x, x = F.tickE r.ttl := ⟨_, rfl⟩
  simp only [← htv, ← hte] at htk hla
  clear htv hte hve hd hr hnow
  obtain ⟨k, i, v, x⟩ := r
  simp only [Rq.row, Rp.row, Rp.bad] at hst hval htk hf hk ⊢
  subst hk
  have ST := Lib.hid hst
  have HV := Lib.hid hval
  have HTK := Lib.hid htk
  have HLA := Lib.hid hla
  have HF := Lib.hid hf
  have HL := Lib.hid hl
  have HQ := Lib.hid hq
  clear h hst hval htk hla hf hl hq
  go_enter Try.func15, Try.ntmps15
  go_wp2_with fail
  refine (HV.out _).mono ?_; rintro e w2 ⟨rfl, b2⟩
  have s2 := ST.out.below b2
  have S2 := Lib.hid s2
  clear b2 s2
  obtain ⟨c0, c1, c2, c3⟩ := S2.out.cells
  go_wp2_with fail
  clear c0 c1 c2 c3
  refine (HF.out _ S2.out.pl).mono ?_; rintro e w3 ⟨rfl, b3⟩
  have s3 := S2.out.below b3
  have S3 := Lib.hid s3
  clear b3 s3 S2 ST HV
  obtain ⟨c0, c1, c2, c3⟩ := S3.out.cells
  obtain ⟨vl, hrow, hlr⟩ := S3.out.pl
  obtain ⟨oa, cap, hvl, hc0, hx⟩ := hlr
  obtain ⟨n, hn⟩ : ∃ n, n = L.length := ⟨_, rfl⟩
  rw [← hn] at hvl
  subst hvl
  have p0 := (cell_of_row _ _ 0 _ _ _ hrow).trans (show _ = some (.int .u64 (now : Int)) from rfl)
  have HX := Lib.hid hx
  have HN := Lib.hid hn
  have HR := Lib.hid hrow
  have HC0 := Lib.hid hc0
  clear hx hn hrow hc0
  go_wp2_with fail
  refine (HTK.out _).mono ?_; rintro e w4 ⟨rfl, rfl⟩
  go_wp2_with fail
  refine (HLA.out _).mono ?_; rintro e w4 ⟨rfl, rfl⟩
  go_wp2_with fail
  have p1 := cell_regrown ((cell_of_row _ _ 1 _ _ _ HR.out).trans (show _ = some (.int .i64 q) from rfl))
  have p2 := cell_regrown ((cell_of_row _ _ 2 _ _ _ HR.out).trans (show _ = some (.slice oa n cap) from rfl))
  have g1 : decide ((n : Int) ≥ q) = true := decide_eq_true (by have := HN.out; have := HQ.out; omega)
  have g2 : (q ≤ (n : Int)) = True := eq_true (by have := HN.out; have := HQ.out; omega)
  refine Loose.wp_region_quiet_fast (by kernel_rfl) (by kernel_rfl) ?_
  (try simp only [List.append_eq, List.cons_append, List.nil_append])
  repeat (go_big_quiet_step (fail))
  refine wpQuiet_nil ?_
  intro _ hw'
  obtain ⟨⟨dq, osq⟩, hw''⟩ := hw'
  subst hw''
  clear c0 c1 c2 c3 p0 p1 p2 g1 g2
  have bQ := below_regrown w3 dq osq
  obtain ⟨V, hV⟩ : ∃ V, V = Go.Sort.grow (Go.redrawn w3 dq) osq := ⟨_, rfl⟩
  rw [← hV] at bQ
  rw [← hV]
  have s4 := S3.out.below bQ
  have S4 := Lib.hid s4
  clear s4 bQ hV
  have ONE : Hid ((#[.int .i64 7, .string ⟨#[]⟩, .int .u64 0] : Array Value).all (·.oneCell') = true) := Lib.hid (by simp [Value.oneCell'])
  have hrow := setRow_heap V (w.heap.size + 1) _ #[.int .i64 7, .string ⟨#[]⟩, .int .u64 0] _ _ S4.out.rp
  have HROW := Lib.hid hrow
  clear hrow
  go_wp2_with (refine wpList_store_row rfl 39 _ _ rfl (w.heap.size + 1) #[.int .i64 7, .string ⟨#[]⟩, .int .u64 0] rfl rfl _ _ S4.out.rp (by kernel_rfl) rfl ONE.out ?_)
  refine bodyPost_ret (v := .agg #[.int .i64 7, .string ⟨#[]⟩, .int .u64 0]) ?_ rfl ⟨rfl, S4.out.fin _⟩
  exact results_cell_row (p := 4) (ty := 39) rfl _ _ (w.heap.size + 1) 39 _ (0, 0) _ rfl HROW.out Try.underlying39 rfl (by kernel_rfl)

set_option maxRecDepth 100000 in
set_option maxHeartbeats 4000000 in
theorem rDo_create (w : World) (P now d : Nat) (q : Int) (L : List Ses) (r : Rq) (h : RPl w P now q L) (hr : r.Kind) (hnow : now < 18446744073709551616) (hl : L.length ≤ 100000) (hd : d = ddl now r) (hve : validE r = 0) (hk : r.kind = 0) (hf : ∀ W, RPl W P now q L → Calls Try.prog 35 #[.pointer (some ⟨P, 0, none⟩), .string r.id] W fun e w' => e = .returned (.int .i64 (-1)) ∧ Below W.heap.size W w') (hq : ¬ q ≤ (L.length : Int)) :
    Calls Try.prog 15 #[.pointer (some ⟨P, 0, none⟩), .agg r.row] w fun e w' => e = .returned (.agg (Rp.mk 0 ⟨#[]⟩ d).row) ∧ (∃ M, PutR now ⟨r.id, r.va, d⟩ L M ∧ RPl w' P now q M) ∧ Mp P P w w' := by
  have hst := RSt.start (r := r) h
  have hval := fun W => rValid_val r W hr
  rw [hve] at hval
  have htk := fun W => rTicks_val r.ttl W hr.ttl
  have hla := fun W => rLater_val now (F.tickV r.ttl) d W hnow (tickV_lt _) (Lib.hid hd)
  obtain ⟨tv, htv⟩ : ∃ x, x = F.tickV r.ttl := ⟨_, rfl⟩
  obtain ⟨te, hte⟩ : ∃ x, x = F.tickE r.ttl := ⟨_, rfl⟩
  simp only [← htv, ← hte] at htk hla
  clear htv hte hve hd hr hnow
  obtain ⟨k, i, v, x⟩ := r
  simp only [Rq.row, Rp.row, Rp.bad] at hst hval htk hf hk ⊢
  subst hk
  have ST := Lib.hid hst
  have HV := Lib.hid hval
  have HTK := Lib.hid htk
  have HLA := Lib.hid hla
  have HF := Lib.hid hf
  have HL := Lib.hid hl
  have HQ := Lib.hid hq
  clear h hst hval htk hla hf hl hq
  go_enter Try.func15, Try.ntmps15
  go_wp2_with fail
  refine (HV.out _).mono ?_; rintro e w2 ⟨rfl, b2⟩
  have s2 := ST.out.below b2
  have S2 := Lib.hid s2
  clear b2 s2
  obtain ⟨c0, c1, c2, c3⟩ := S2.out.cells
  go_wp2_with fail
  clear c0 c1 c2 c3
  refine (HF.out _ S2.out.pl).mono ?_; rintro e w3 ⟨rfl, b3⟩
  have s3 := S2.out.below b3
  have S3 := Lib.hid s3
  clear b3 s3 S2 ST HV
  obtain ⟨c0, c1, c2, c3⟩ := S3.out.cells
  obtain ⟨vl, hrow, hlr⟩ := S3.out.pl
  obtain ⟨oa, cap, hvl, hc0, hx⟩ := hlr
  obtain ⟨n, hn⟩ : ∃ n, n = L.length := ⟨_, rfl⟩
  rw [← hn] at hvl
  subst hvl
  have p0 := (cell_of_row _ _ 0 _ _ _ hrow).trans (show _ = some (.int .u64 (now : Int)) from rfl)
  have HX := Lib.hid hx
  have HN := Lib.hid hn
  have HR := Lib.hid hrow
  have HC0 := Lib.hid hc0
  clear hx hn hrow hc0
  go_wp2_with fail
  refine (HTK.out _).mono ?_; rintro e w4 ⟨rfl, rfl⟩
  go_wp2_with fail
  refine (HLA.out _).mono ?_; rintro e w4 ⟨rfl, rfl⟩
  go_wp2_with fail
  have p1 := cell_regrown ((cell_of_row _ _ 1 _ _ _ HR.out).trans (show _ = some (.int .i64 q) from rfl))
  have p2 := cell_regrown ((cell_of_row _ _ 2 _ _ _ HR.out).trans (show _ = some (.slice oa n cap) from rfl))
  have g1 : decide ((n : Int) ≥ q) = false := decide_eq_false (by have := HN.out; have := HQ.out; omega)
  have g2 : (q ≤ (n : Int)) = False := eq_false (by have := HN.out; have := HQ.out; omega)
  refine Loose.wp_region_quiet_fast (by kernel_rfl) (by kernel_rfl) ?_
  (try simp only [List.append_eq, List.cons_append, List.nil_append])
  repeat (go_big_quiet_step (fail))
  refine wpQuiet_nil ?_
  intro _ hw'
  obtain ⟨⟨dq, osq⟩, hw''⟩ := hw'
  subst hw''
  clear c0 c1 c2 c3 p0 p1 p2 g1 g2
  have bQ := below_regrown w3 dq osq
  obtain ⟨V, hV⟩ : ∃ V, V = Go.Sort.grow (Go.redrawn w3 dq) osq := ⟨_, rfl⟩
  rw [← hV] at bQ
  rw [← hV]
  have s4 := S3.out.below bQ
  have S4 := Lib.hid s4
  clear s4 bQ hV
  obtain ⟨c0, c1, c2, c3⟩ := S4.out.cells
  have pv := rput_val V P now q L ⟨i, v, d⟩ S4.out.pl HL.out
  simp only [Ses.row] at pv
  have PV := Lib.hid pv
  clear pv
  go_wp2_with fail
  refine PV.out.mono ?_; rintro e w6 ⟨rfl, ⟨M, hput, hpl⟩, hmp⟩
  have s6 := S4.out.call hpl hmp
  have S6 := Lib.hid s6
  have PUT := Lib.hid hput
  clear s6 hput hpl hmp c0 c1 c2 c3
  have ONE : Hid ((#[.int .i64 0, .string ⟨#[]⟩, .int .u64 (d : Int)] : Array Value).all (·.oneCell') = true) := Lib.hid (by simp [Value.oneCell'])
  have hrow := setRow_heap w6 (w.heap.size + 1) _ #[.int .i64 0, .string ⟨#[]⟩, .int .u64 (d : Int)] _ _ S6.out.rp
  have HROW := Lib.hid hrow
  clear hrow
  go_wp2_with (refine wpList_store_row rfl 39 _ _ rfl (w.heap.size + 1) #[.int .i64 0, .string ⟨#[]⟩, .int .u64 (d : Int)] rfl rfl _ _ S6.out.rp (by kernel_rfl) rfl ONE.out ?_)
  refine bodyPost_ret (v := .agg #[.int .i64 0, .string ⟨#[]⟩, .int .u64 (d : Int)]) ?_ rfl ⟨rfl, ⟨_, PUT.out, (S6.out.fin _).1⟩, (S6.out.fin _).2⟩
  exact results_cell_row (p := 4) (ty := 39) rfl _ _ (w.heap.size + 1) 39 _ (0, 0) _ rfl HROW.out Try.underlying39 rfl (by kernel_rfl)

set_option maxRecDepth 100000 in
set_option maxHeartbeats 4000000 in
theorem rDo_none (w : World) (P now d : Nat) (q : Int) (L : List Ses) (r : Rq) (h : RPl w P now q L) (hr : r.Kind) (hnow : now < 18446744073709551616) (hl : L.length ≤ 100000) (hd : d = ddl now r) (hve : validE r = 0) (hk : (r.kind == 0) = false) (hf : ∀ W, RPl W P now q L → Calls Try.prog 35 #[.pointer (some ⟨P, 0, none⟩), .string r.id] W fun e w' => e = .returned (.int .i64 (-1)) ∧ Below W.heap.size W w') :
    Calls Try.prog 15 #[.pointer (some ⟨P, 0, none⟩), .agg r.row] w fun e w' => e = .returned (.agg (Rp.bad 3).row) ∧ RPl w' P now q L ∧ Mp P P w w' := by
  have hst := RSt.start (r := r) h
  have hval := fun W => rValid_val r W hr
  rw [hve] at hval
  have htk := fun W => rTicks_val r.ttl W hr.ttl
  have hla := fun W => rLater_val now (F.tickV r.ttl) d W hnow (tickV_lt _) (Lib.hid hd)
  obtain ⟨tv, htv⟩ : ∃ x, x = F.tickV r.ttl := ⟨_, rfl⟩
  obtain ⟨te, hte⟩ : ∃ x, x = F.tickE r.ttl := ⟨_, rfl⟩
  simp only [← htv, ← hte] at htk hla
  clear htv hte hve hd hr hnow
  obtain ⟨k, i, v, x⟩ := r
  simp only [Rq.row, Rp.row, Rp.bad] at hst hval htk hf hk ⊢
  have ST := Lib.hid hst
  have HV := Lib.hid hval
  have HTK := Lib.hid htk
  have HLA := Lib.hid hla
  have HF := Lib.hid hf
  have HL := Lib.hid hl
  clear h hst hval htk hla hf hl
  go_enter Try.func15, Try.ntmps15
  go_wp2_with fail
  refine (HV.out _).mono ?_; rintro e w2 ⟨rfl, b2⟩
  have s2 := ST.out.below b2
  have S2 := Lib.hid s2
  clear b2 s2
  obtain ⟨c0, c1, c2, c3⟩ := S2.out.cells
  go_wp2_with fail
  clear c0 c1 c2 c3
  refine (HF.out _ S2.out.pl).mono ?_; rintro e w3 ⟨rfl, b3⟩
  have s3 := S2.out.below b3
  have S3 := Lib.hid s3
  clear b3 s3 S2 ST HV
  obtain ⟨c0, c1, c2, c3⟩ := S3.out.cells
  obtain ⟨vl, hrow, hlr⟩ := S3.out.pl
  obtain ⟨oa, cap, hvl, hc0, hx⟩ := hlr
  obtain ⟨n, hn⟩ : ∃ n, n = L.length := ⟨_, rfl⟩
  rw [← hn] at hvl
  subst hvl
  have p0 := (cell_of_row _ _ 0 _ _ _ hrow).trans (show _ = some (.int .u64 (now : Int)) from rfl)
  have HX := Lib.hid hx
  have HN := Lib.hid hn
  have HR := Lib.hid hrow
  have HC0 := Lib.hid hc0
  clear hx hn hrow hc0
  go_wp2_with fail
  refine (HTK.out _).mono ?_; rintro e w4 ⟨rfl, rfl⟩
  go_wp2_with fail
  refine (HLA.out _).mono ?_; rintro e w4 ⟨rfl, rfl⟩
  have ONE : Hid ((#[.int .i64 3, .string ⟨#[]⟩, .int .u64 0] : Array Value).all (·.oneCell') = true) := Lib.hid (by simp [Value.oneCell'])
  have hrow := setRow_heap w3 (w.heap.size + 1) _ #[.int .i64 3, .string ⟨#[]⟩, .int .u64 0] _ _ S3.out.rp
  have HROW := Lib.hid hrow
  clear hrow
  go_wp2_with (refine wpList_store_row rfl 39 _ _ rfl (w.heap.size + 1) #[.int .i64 3, .string ⟨#[]⟩, .int .u64 0] rfl rfl _ _ S3.out.rp (by kernel_rfl) rfl ONE.out ?_)
  refine bodyPost_ret (v := .agg #[.int .i64 3, .string ⟨#[]⟩, .int .u64 0]) ?_ rfl ⟨rfl, S3.out.fin _⟩
  exact results_cell_row (p := 4) (ty := 39) rfl _ _ (w.heap.size + 1) 39 _ (0, 0) _ rfl HROW.out Try.underlying39 rfl (by kernel_rfl)

set_option maxRecDepth 100000 in
set_option maxHeartbeats 4000000 in
theorem rDo_get (w : World) (P now d : Nat) (q : Int) (L : List Ses) (r : Rq) (m : Nat) (hm : m < L.length) (s : Ses) (hs : s = L[m]) (h : RPl w P now q L) (hr : r.Kind) (hnow : now < 18446744073709551616) (hl : L.length ≤ 100000) (hd : d = ddl now r) (hve : validE r = 0) (hk : r.kind = 1) (hf : ∀ W, RPl W P now q L → Calls Try.prog 35 #[.pointer (some ⟨P, 0, none⟩), .string r.id] W fun e w' => e = .returned (.int .i64 (m : Int)) ∧ Below W.heap.size W w') :
    Calls Try.prog 15 #[.pointer (some ⟨P, 0, none⟩), .agg r.row] w fun e w' => e = .returned (.agg (Rp.mk 0 s.va s.dl).row) ∧ RPl w' P now q L ∧ Mp P P w w' := by
  have hst := RSt.start (r := r) h
  have hval := fun W => rValid_val r W hr
  rw [hve] at hval
  have htk := fun W => rTicks_val r.ttl W hr.ttl
  have hla := fun W => rLater_val now (F.tickV r.ttl) d W hnow (tickV_lt _) (Lib.hid hd)
  obtain ⟨tv, htv⟩ : ∃ x, x = F.tickV r.ttl := ⟨_, rfl⟩
  obtain ⟨te, hte⟩ : ∃ x, x = F.tickE r.ttl := ⟨_, rfl⟩
  simp only [← htv, ← hte] at htk hla
  clear htv hte hve hd hr hnow
  obtain ⟨k, i, v, x⟩ := r
  simp only [Rq.row, Rp.row, Rp.bad] at hst hval htk hf hk ⊢
  subst hk
  have ST := Lib.hid hst
  have HV := Lib.hid hval
  have HTK := Lib.hid htk
  have HLA := Lib.hid hla
  have HF := Lib.hid hf
  have HL := Lib.hid hl
  clear h hst hval htk hla hf hl
  go_enter Try.func15, Try.ntmps15
  go_wp2_with fail
  refine (HV.out _).mono ?_; rintro e w2 ⟨rfl, b2⟩
  have s2 := ST.out.below b2
  have S2 := Lib.hid s2
  clear b2 s2
  obtain ⟨c0, c1, c2, c3⟩ := S2.out.cells
  go_wp2_with fail
  clear c0 c1 c2 c3
  refine (HF.out _ S2.out.pl).mono ?_; rintro e w3 ⟨rfl, b3⟩
  have s3 := S2.out.below b3
  have S3 := Lib.hid s3
  clear b3 s3 S2 ST HV
  obtain ⟨c0, c1, c2, c3⟩ := S3.out.cells
  obtain ⟨vl, hrow, hlr⟩ := S3.out.pl
  obtain ⟨oa, cap, hvl, hc0, hx⟩ := hlr
  obtain ⟨n, hn⟩ : ∃ n, n = L.length := ⟨_, rfl⟩
  rw [← hn] at hvl
  subst hvl
  have p0 := (cell_of_row _ _ 0 _ _ _ hrow).trans (show _ = some (.int .u64 (now : Int)) from rfl)
  have HX := Lib.hid hx
  have HN := Lib.hid hn
  have HR := Lib.hid hrow
  have HC0 := Lib.hid hc0
  clear hx hn hrow hc0
  go_wp2_with fail
  refine (HTK.out _).mono ?_; rintro e w4 ⟨rfl, rfl⟩
  go_wp2_with fail
  refine (HLA.out _).mono ?_; rintro e w4 ⟨rfl, rfl⟩
  obtain ⟨b', off, hoa, hcell⟩ := HX.out m hm
  have hmn : m < n := by have := HN.out; omega
  rw [← hs] at hcell
  obtain ⟨xi, xv, xd⟩ := s
  simp only at *
  have x0 := hcell 0 _ rfl
  have x1 := hcell 1 _ rfl
  have x2 := hcell 2 _ rfl
  rw [Nat.add_zero] at x0
  subst hoa
  have p2 := (cell_of_row _ _ 2 _ _ _ HR.out).trans (show _ = some (.slice (some ⟨b', off, none⟩) n cap) from rfl)
  have HS := Lib.hid hs
  have HM := Lib.hid hm
  have s4 := S3.out.below ((Below.refl w3.heap.size w3).alloc (Nat.le_refl _) (.cells #[.string xi, .string xv, .int .u64 (xd : Int)] 79))
  have n4 := heap_alloc_new w3 (.cells #[.string xi, .string xv, .int .u64 (xd : Int)] 79)
  have S4 := Lib.hid s4
  have N4 := Lib.hid n4
  clear hcell hs s4 n4
  obtain ⟨a0, a1, a2, a3⟩ := S4.out.cells
  obtain ⟨e0, e1, e2⟩ := rses_row _ _ _ _ _ N4.out
  have ONE : Hid ((#[.int .i64 0, .string xv, .int .u64 (xd : Int)] : Array Value).all (·.oneCell') = true) := Lib.hid (by simp [Value.oneCell'])
  have hrow := setRow_heap (w3.alloc (.cells #[.string xi, .string xv, .int .u64 (xd : Int)] 79)) (w.heap.size + 1) _ #[.int .i64 0, .string xv, .int .u64 (xd : Int)] _ _ S4.out.rp
  have HROW := Lib.hid hrow
  clear hrow
  go_wp2_with (refine wpList_store_row rfl 39 _ _ rfl (w.heap.size + 1) #[.int .i64 0, .string xv, .int .u64 (xd : Int)] rfl rfl _ _ S4.out.rp (by kernel_rfl) rfl ONE.out ?_)
  refine bodyPost_ret (v := .agg #[.int .i64 0, .string xv, .int .u64 (xd : Int)]) ?_ rfl ⟨rfl, S4.out.fin _⟩
  exact results_cell_row (p := 4) (ty := 39) rfl _ _ (w.heap.size + 1) 39 _ (0, 0) _ rfl HROW.out Try.underlying39 rfl (by kernel_rfl)

set_option maxRecDepth 100000 in
set_option maxHeartbeats 4000000 in
theorem rDo_touch (w : World) (P now d : Nat) (q : Int) (L : List Ses) (r : Rq) (m : Nat) (hm : m < L.length) (s : Ses) (hs : s = L[m]) (h : RPl w P now q L) (hr : r.Kind) (hnow : now < 18446744073709551616) (hl : L.length ≤ 100000) (hd : d = ddl now r) (hve : validE r = 0) (hk : r.kind = 2) (hf : ∀ W, RPl W P now q L → Calls Try.prog 35 #[.pointer (some ⟨P, 0, none⟩), .string r.id] W fun e w' => e = .returned (.int .i64 (m : Int)) ∧ Below W.heap.size W w') :
    Calls Try.prog 15 #[.pointer (some ⟨P, 0, none⟩), .agg r.row] w fun e w' => e = .returned (.agg (Rp.mk 0 ⟨#[]⟩ d).row) ∧ (∃ M, PutR now ⟨s.id, s.va, d⟩ L M ∧ RPl w' P now q M) ∧ Mp P P w w' := by
  have hst := RSt.start (r := r) h
  have hval := fun W => rValid_val r W hr
  rw [hve] at hval
  have htk := fun W => rTicks_val r.ttl W hr.ttl
  have hla := fun W => rLater_val now (F.tickV r.ttl) d W hnow (tickV_lt _) (Lib.hid hd)
  obtain ⟨tv, htv⟩ : ∃ x, x = F.tickV r.ttl := ⟨_, rfl⟩
  obtain ⟨te, hte⟩ : ∃ x, x = F.tickE r.ttl := ⟨_, rfl⟩
  simp only [← htv, ← hte] at htk hla
  clear htv hte hve hd hr hnow
  obtain ⟨k, i, v, x⟩ := r
  simp only [Rq.row, Rp.row, Rp.bad] at hst hval htk hf hk ⊢
  subst hk
  have ST := Lib.hid hst
  have HV := Lib.hid hval
  have HTK := Lib.hid htk
  have HLA := Lib.hid hla
  have HF := Lib.hid hf
  have HL := Lib.hid hl
  clear h hst hval htk hla hf hl
  go_enter Try.func15, Try.ntmps15
  go_wp2_with fail
  refine (HV.out _).mono ?_; rintro e w2 ⟨rfl, b2⟩
  have s2 := ST.out.below b2
  have S2 := Lib.hid s2
  clear b2 s2
  obtain ⟨c0, c1, c2, c3⟩ := S2.out.cells
  go_wp2_with fail
  clear c0 c1 c2 c3
  refine (HF.out _ S2.out.pl).mono ?_; rintro e w3 ⟨rfl, b3⟩
  have s3 := S2.out.below b3
  have S3 := Lib.hid s3
  clear b3 s3 S2 ST HV
  obtain ⟨c0, c1, c2, c3⟩ := S3.out.cells
  obtain ⟨vl, hrow, hlr⟩ := S3.out.pl
  obtain ⟨oa, cap, hvl, hc0, hx⟩ := hlr
  obtain ⟨n, hn⟩ : ∃ n, n = L.length := ⟨_, rfl⟩
  rw [← hn] at hvl
  subst hvl
  have p0 := (cell_of_row _ _ 0 _ _ _ hrow).trans (show _ = some (.int .u64 (now : Int)) from rfl)
  have HX := Lib.hid hx
  have HN := Lib.hid hn
  have HR := Lib.hid hrow
  have HC0 := Lib.hid hc0
  clear hx hn hrow hc0
  go_wp2_with fail
  refine (HTK.out _).mono ?_; rintro e w4 ⟨rfl, rfl⟩
  go_wp2_with fail
  refine (HLA.out _).mono ?_; rintro e w4 ⟨rfl, rfl⟩
  obtain ⟨b', off, hoa, hcell⟩ := HX.out m hm
  have hmn : m < n := by have := HN.out; omega
  rw [← hs] at hcell
  obtain ⟨xi, xv, xd⟩ := s
  simp only at *
  have x0 := hcell 0 _ rfl
  have x1 := hcell 1 _ rfl
  have x2 := hcell 2 _ rfl
  rw [Nat.add_zero] at x0
  subst hoa
  have p2 := (cell_of_row _ _ 2 _ _ _ HR.out).trans (show _ = some (.slice (some ⟨b', off, none⟩) n cap) from rfl)
  have HS := Lib.hid hs
  have HM := Lib.hid hm
  have s4 := S3.out.below ((Below.refl w3.heap.size w3).alloc (Nat.le_refl _) (.cells #[.string xi, .string xv, .int .u64 (xd : Int)] 79))
  have n4 := heap_alloc_new w3 (.cells #[.string xi, .string xv, .int .u64 (xd : Int)] 79)
  have S4 := Lib.hid s4
  have N4 := Lib.hid n4
  clear hcell hs s4 n4
  obtain ⟨a0, a1, a2, a3⟩ := S4.out.cells
  obtain ⟨e0, e1, e2⟩ := rses_row _ _ _ _ _ N4.out
  have pv := rput_val (w3.alloc (.cells #[.string xi, .string xv, .int .u64 (xd : Int)] 79)) P now q L ⟨xi, xv, d⟩ S4.out.pl HL.out
  simp only [Ses.row] at pv
  have PV := Lib.hid pv
  clear pv
  go_wp2_with fail
  refine PV.out.mono ?_; rintro e w6 ⟨rfl, ⟨M, hput, hpl⟩, hmp⟩
  have s6 := S4.out.call hpl hmp
  have S6 := Lib.hid s6
  have PUT := Lib.hid hput
  clear s6 hput hpl hmp
  have ONE : Hid ((#[.int .i64 0, .string ⟨#[]⟩, .int .u64 (d : Int)] : Array Value).all (·.oneCell') = true) := Lib.hid (by simp [Value.oneCell'])
  have hrow := setRow_heap w6 (w.heap.size + 1) _ #[.int .i64 0, .string ⟨#[]⟩, .int .u64 (d : Int)] _ _ S6.out.rp
  have HROW := Lib.hid hrow
  clear hrow
  go_wp2_with (refine wpList_store_row rfl 39 _ _ rfl (w.heap.size + 1) #[.int .i64 0, .string ⟨#[]⟩, .int .u64 (d : Int)] rfl rfl _ _ S6.out.rp (by kernel_rfl) rfl ONE.out ?_)
  refine bodyPost_ret (v := .agg #[.int .i64 0, .string ⟨#[]⟩, .int .u64 (d : Int)]) ?_ rfl ⟨rfl, ⟨_, PUT.out, (S6.out.fin _).1⟩, (S6.out.fin _).2⟩
  exact results_cell_row (p := 4) (ty := 39) rfl _ _ (w.heap.size + 1) 39 _ (0, 0) _ rfl HROW.out Try.underlying39 rfl (by kernel_rfl)

set_option maxRecDepth 100000 in
set_option maxHeartbeats 4000000 in
theorem rDo_put (w : World) (P now d : Nat) (q : Int) (L : List Ses) (r : Rq) (m : Nat) (hm : m < L.length) (s : Ses) (hs : s = L[m]) (h : RPl w P now q L) (hr : r.Kind) (hnow : now < 18446744073709551616) (hl : L.length ≤ 100000) (hd : d = ddl now r) (hve : validE r = 0) (hk : r.kind = 3) (hf : ∀ W, RPl W P now q L → Calls Try.prog 35 #[.pointer (some ⟨P, 0, none⟩), .string r.id] W fun e w' => e = .returned (.int .i64 (m : Int)) ∧ Below W.heap.size W w') :
    Calls Try.prog 15 #[.pointer (some ⟨P, 0, none⟩), .agg r.row] w fun e w' => e = .returned (.agg (Rp.bad 0).row) ∧ (∃ M, PutR now ⟨s.id, r.va, s.dl⟩ L M ∧ RPl w' P now q M) ∧ Mp P P w w' := by
  have hst := RSt.start (r := r) h
  have hval := fun W => rValid_val r W hr
  rw [hve] at hval
  have htk := fun W => rTicks_val r.ttl W hr.ttl
  have hla := fun W => rLater_val now (F.tickV r.ttl) d W hnow (tickV_lt _) (Lib.hid hd)
  obtain ⟨tv, htv⟩ : ∃ x, x = F.tickV r.ttl := ⟨_, rfl⟩
  obtain ⟨te, hte⟩ : ∃ x, x = F.tickE r.ttl := ⟨_, rfl⟩
  simp only [← htv, ← hte] at htk hla
  clear htv hte hve hd hr hnow
  obtain ⟨k, i, v, x⟩ := r
  simp only [Rq.row, Rp.row, Rp.bad] at hst hval htk hf hk ⊢
  subst hk
  have ST := Lib.hid hst
  have HV := Lib.hid hval
  have HTK := Lib.hid htk
  have HLA := Lib.hid hla
  have HF := Lib.hid hf
  have HL := Lib.hid hl
  clear h hst hval htk hla hf hl
  go_enter Try.func15, Try.ntmps15
  go_wp2_with fail
  refine (HV.out _).mono ?_; rintro e w2 ⟨rfl, b2⟩
  have s2 := ST.out.below b2
  have S2 := Lib.hid s2
  clear b2 s2
  obtain ⟨c0, c1, c2, c3⟩ := S2.out.cells
  go_wp2_with fail
  clear c0 c1 c2 c3
  refine (HF.out _ S2.out.pl).mono ?_; rintro e w3 ⟨rfl, b3⟩
  have s3 := S2.out.below b3
  have S3 := Lib.hid s3
  clear b3 s3 S2 ST HV
  obtain ⟨c0, c1, c2, c3⟩ := S3.out.cells
  obtain ⟨vl, hrow, hlr⟩ := S3.out.pl
  obtain ⟨oa, cap, hvl, hc0, hx⟩ := hlr
  obtain ⟨n, hn⟩ : ∃ n, n = L.length := ⟨_, rfl⟩
  rw [← hn] at hvl
  subst hvl
  have p0 := (cell_of_row _ _ 0 _ _ _ hrow).trans (show _ = some (.int .u64 (now : Int)) from rfl)
  have HX := Lib.hid hx
  have HN := Lib.hid hn
  have HR := Lib.hid hrow
  have HC0 := Lib.hid hc0
  clear hx hn hrow hc0
  go_wp2_with fail
  refine (HTK.out _).mono ?_; rintro e w4 ⟨rfl, rfl⟩
  go_wp2_with fail
  refine (HLA.out _).mono ?_; rintro e w4 ⟨rfl, rfl⟩
  obtain ⟨b', off, hoa, hcell⟩ := HX.out m hm
  have hmn : m < n := by have := HN.out; omega
  rw [← hs] at hcell
  obtain ⟨xi, xv, xd⟩ := s
  simp only at *
  have x0 := hcell 0 _ rfl
  have x1 := hcell 1 _ rfl
  have x2 := hcell 2 _ rfl
  rw [Nat.add_zero] at x0
  subst hoa
  have p2 := (cell_of_row _ _ 2 _ _ _ HR.out).trans (show _ = some (.slice (some ⟨b', off, none⟩) n cap) from rfl)
  have HS := Lib.hid hs
  have HM := Lib.hid hm
  have s4 := S3.out.below ((Below.refl w3.heap.size w3).alloc (Nat.le_refl _) (.cells #[.string xi, .string xv, .int .u64 (xd : Int)] 79))
  have n4 := heap_alloc_new w3 (.cells #[.string xi, .string xv, .int .u64 (xd : Int)] 79)
  have S4 := Lib.hid s4
  have N4 := Lib.hid n4
  clear hcell hs s4 n4
  obtain ⟨a0, a1, a2, a3⟩ := S4.out.cells
  obtain ⟨e0, e1, e2⟩ := rses_row _ _ _ _ _ N4.out
  have pv := rput_val (w3.alloc (.cells #[.string xi, .string xv, .int .u64 (xd : Int)] 79)) P now q L ⟨xi, v, xd⟩ S4.out.pl HL.out
  simp only [Ses.row] at pv
  have PV := Lib.hid pv
  clear pv
  go_wp2_with fail
  refine PV.out.mono ?_; rintro e w6 ⟨rfl, ⟨M, hput, hpl⟩, hmp⟩
  have s6 := S4.out.call hpl hmp
  have S6 := Lib.hid s6
  have PUT := Lib.hid hput
  clear s6 hput hpl hmp
  have ONE : Hid ((#[.int .i64 0, .string ⟨#[]⟩, .int .u64 0] : Array Value).all (·.oneCell') = true) := Lib.hid (by simp [Value.oneCell'])
  have hrow := setRow_heap w6 (w.heap.size + 1) _ #[.int .i64 0, .string ⟨#[]⟩, .int .u64 0] _ _ S6.out.rp
  have HROW := Lib.hid hrow
  clear hrow
  go_wp2_with (refine wpList_store_row rfl 39 _ _ rfl (w.heap.size + 1) #[.int .i64 0, .string ⟨#[]⟩, .int .u64 0] rfl rfl _ _ S6.out.rp (by kernel_rfl) rfl ONE.out ?_)
  refine bodyPost_ret (v := .agg #[.int .i64 0, .string ⟨#[]⟩, .int .u64 0]) ?_ rfl ⟨rfl, ⟨_, PUT.out, (S6.out.fin _).1⟩, (S6.out.fin _).2⟩
  exact results_cell_row (p := 4) (ty := 39) rfl _ _ (w.heap.size + 1) 39 _ (0, 0) _ rfl HROW.out Try.underlying39 rfl (by kernel_rfl)

end Go.Proofs.Ytmbidannodelfaa.G
