/- What is asked is done: Do. -/
import Derived.Test.YtmbidannodelfaaPT
namespace Go.Proofs.Ytmbidannodelfaa.G
open Go.RowKit Go.Maps Go.Proofs.Ytmbidannodelfaa.WordPlain Go.Proofs.Ytmbidannodelfaa.Loose
set_option linter.unusedVariables false
set_option linter.unusedSimpArgs false

set_option maxRecDepth 100000 in
set_option maxHeartbeats 4000000 in
theorem Do_bad (w : World) (p b n now : Nat) (q : Int) (f : ByteArray → Option Ses) (r : Rq) (ve : Int) (h : PL w p b n now q f) (hr : r.Kind) (hve : ve = validE r) (hne : (ve != 0) = true) :
    Calls Try.prog 14 #[.pointer (some ⟨p, 0, none⟩), .agg r.row] w fun e w' => e = .returned (.agg (Rp.bad ve).row) ∧ PL w' p b n now q f ∧ Mp p b w w' := by
  have hst := St.start (r := r) h
  have hval := fun W => Valid_val r W hr
  rw [← hve] at hval
  clear hve hr
  obtain ⟨k, i, v, x⟩ := r
  simp only [Rq.row, Rp.row, Rp.bad] at hst hval ⊢
  have ST := Lib.hid hst
  have HV := Lib.hid hval
  clear h hst hval
  go_enter Try.func14, Try.ntmps14
  go_wp2_with fail
  refine (HV.out _).mono ?_; rintro e w2 ⟨rfl, b2⟩
  have s2 := ST.out.below b2
  have S2 := Lib.hid s2
  clear b2 s2
  have ONE : Hid ((#[.int .i64 ve, .string ⟨#[]⟩, .int .u64 0] : Array Value).all (·.oneCell') = true) := Lib.hid (by simp [Value.oneCell'])
  have hrow := setRow_heap w2 (w.heap.size + 1) _ #[.int .i64 ve, .string ⟨#[]⟩, .int .u64 0] _ _ S2.out.rp
  have HROW := Lib.hid hrow
  clear hrow
  go_wp2_with (refine wpList_store_row rfl 41 _ _ rfl (w.heap.size + 1) #[.int .i64 ve, .string ⟨#[]⟩, .int .u64 0] rfl rfl _ _ S2.out.rp (by kernel_rfl) rfl ONE.out ?_)
  refine bodyPost_ret (v := .agg #[.int .i64 ve, .string ⟨#[]⟩, .int .u64 0]) ?_ rfl ⟨rfl, S2.out.fin _⟩
  exact results_cell_row (p := 4) (ty := 41) rfl _ _ (w.heap.size + 1) 41 _ (0, 0) _ rfl HROW.out Try.underlying41 rfl (by kernel_rfl)

set_option maxRecDepth 100000 in
set_option maxHeartbeats 4000000 in
theorem Do_none (w : World) (p b n now : Nat) (q : Int) (f : ByteArray → Option Ses) (r : Rq) (h : PL w p b n now q f) (hr : r.Kind) (hve : validE r = 0) (hk : (r.kind != 0) = true) (hz : liv now f r.id = false) :
    Calls Try.prog 14 #[.pointer (some ⟨p, 0, none⟩), .agg r.row] w fun e w' => e = .returned (.agg (Rp.bad 3).row) ∧ PL w' p b n now q f ∧ Mp p b w w' := by
  have hst := St.start (r := r) h
  have hval := fun W => Valid_val r W hr
  rw [hve] at hval
  clear hve
  have hfind := fun W (hW : PL W p b n now q f) => find_val W p b n now q f r.id hW hr.id
  obtain ⟨s, hs⟩ : ∃ s, s = (f r.id).getD Ses.zero := ⟨_, rfl⟩
  simp only [← hs, hz] at hfind
  obtain ⟨si, sv, sd⟩ := s
  simp only [Ses.row] at hfind
  have HF := Lib.hid hfind
  clear hs hz hfind hr
  obtain ⟨k, i, v, x⟩ := r
  simp only [Rq.row, Rp.row, Rp.bad] at hst hval hk HF ⊢
  have ST := Lib.hid hst
  have HV := Lib.hid hval
  clear h hst hval
  go_enter Try.func14, Try.ntmps14
  go_wp2_with fail
  refine (HV.out _).mono ?_; rintro e w2 ⟨rfl, b2⟩
  have s2 := ST.out.below b2
  have S2 := Lib.hid s2
  clear b2 s2
  obtain ⟨c0, c1, c2, c3⟩ := S2.out.cells
  go_wp2_with fail
  clear c0 c1 c2 c3
  have ff := HF.out _ S2.out.pl
  refine ff.mono ?_; rintro e w3 ⟨rfl, b3⟩
  clear ff
  have s3 := S2.out.below b3
  have s4 := s3.below ((Below.refl w3.heap.size w3).alloc (Nat.le_refl _) (.cells #[.string si, .string sv, .int .u64 (sd : Int)] 70))
  have S4 := Lib.hid s4
  obtain ⟨c0, c1, c2, c3⟩ := S4.out.cells
  clear b3 s3 s4
  have ONE : Hid ((#[.int .i64 3, .string ⟨#[]⟩, .int .u64 0] : Array Value).all (·.oneCell') = true) := Lib.hid (by simp [Value.oneCell'])
  have hrow := setRow_heap (w3.alloc (.cells #[.string si, .string sv, .int .u64 (sd : Int)] 70)) (w.heap.size + 1) _ #[.int .i64 3, .string ⟨#[]⟩, .int .u64 0] _ _ S4.out.rp
  have HROW := Lib.hid hrow
  clear hrow
  go_wp2_with (refine wpList_store_row rfl 41 _ _ rfl (w.heap.size + 1) #[.int .i64 3, .string ⟨#[]⟩, .int .u64 0] rfl rfl _ _ S4.out.rp (by kernel_rfl) rfl ONE.out ?_)
  refine bodyPost_ret (v := .agg #[.int .i64 3, .string ⟨#[]⟩, .int .u64 0]) ?_ rfl ⟨rfl, S4.out.fin _⟩
  exact results_cell_row (p := 4) (ty := 41) rfl _ _ (w.heap.size + 1) 41 _ (0, 0) _ rfl HROW.out Try.underlying41 rfl (by kernel_rfl)

set_option maxRecDepth 100000 in
set_option maxHeartbeats 4000000 in
theorem Do_0 (w : World) (p b n m now : Nat) (q : Int) (f g : ByteArray → Option Ses) (r : Rq) (y : Rp) (z : Bool) (h : PL w p b n now q f) (hr : r.Kind) (hve : validE r = 0) (hk : r.kind = 0) (hz : liv now f r.id = z)
    (hc : ∀ W, PL W p b n now q f → Calls Try.prog 30 #[.pointer (some ⟨p, 0, none⟩), .agg r.row] W fun e w' => e = .returned (.agg y.row) ∧ PL w' p b m now q g ∧ Mp p b W w') :
    Calls Try.prog 14 #[.pointer (some ⟨p, 0, none⟩), .agg r.row] w fun e w' => e = .returned (.agg y.row) ∧ PL w' p b m now q g ∧ Mp p b w w' := by
  have hst := St.start (r := r) h
  have hval := fun W => Valid_val r W hr
  rw [hve] at hval
  clear hve
  have hfind := fun W (hW : PL W p b n now q f) => find_val W p b n now q f r.id hW hr.id
  obtain ⟨s, hs⟩ : ∃ s, s = (f r.id).getD Ses.zero := ⟨_, rfl⟩
  simp only [← hs, hz] at hfind
  obtain ⟨si, sv, sd⟩ := s
  simp only [Ses.row] at hfind
  have HF := Lib.hid hfind
  clear hs hz hfind hr
  obtain ⟨ye, yv, yd⟩ := y
  have HC := Lib.hid hc
  clear hc
  obtain ⟨k, i, v, x⟩ := r
  simp only [Rq.row, Rp.row, Rp.bad] at hst hval hk HF HC ⊢
  have ST := Lib.hid hst
  have HV := Lib.hid hval
  subst hk
  clear h hst hval
  go_enter Try.func14, Try.ntmps14
  go_wp2_with fail
  refine (HV.out _).mono ?_; rintro e w2 ⟨rfl, b2⟩
  have s2 := ST.out.below b2
  have S2 := Lib.hid s2
  clear b2 s2
  obtain ⟨c0, c1, c2, c3⟩ := S2.out.cells
  go_wp2_with fail
  clear c0 c1 c2 c3
  have ff := HF.out _ S2.out.pl
  refine ff.mono ?_; rintro e w3 ⟨rfl, b3⟩
  clear ff
  have s3 := S2.out.below b3
  have s4 := s3.below ((Below.refl w3.heap.size w3).alloc (Nat.le_refl _) (.cells #[.string si, .string sv, .int .u64 (sd : Int)] 70))
  have S4 := Lib.hid s4
  obtain ⟨c0, c1, c2, c3⟩ := S4.out.cells
  clear b3 s3 s4
  go_wp2_with fail
  clear c0 c1 c2 c3
  obtain ⟨W4, hW4⟩ : ∃ W, W = w3.alloc (.cells #[.string si, .string sv, .int .u64 (sd : Int)] 70) := ⟨_, rfl⟩
  rw [← hW4] at S4
  rw [← hW4]
  clear hW4
  have t0 : ∀ V', Below W4.heap.size W4 V' → V'.cell? ⟨w.heap.size, 0, none⟩ = some (.int .i64 0) := fun V' hV => (S4.out.below hV).cells.1
  have t1 : ∀ V', Below W4.heap.size W4 V' → V'.cell? ⟨w.heap.size, 1, none⟩ = some (.string i) := fun V' hV => (S4.out.below hV).cells.2.1
  have t2 : ∀ V', Below W4.heap.size W4 V' → V'.cell? ⟨w.heap.size, 2, none⟩ = some (.string v) := fun V' hV => (S4.out.below hV).cells.2.2.1
  have t3 : ∀ V', Below W4.heap.size W4 V' → V'.cell? ⟨w.heap.size, 3, none⟩ = some (.float .f64 x) := fun V' hV => (S4.out.below hV).cells.2.2.2
  refine wp_region_tail [0, 1, 2, 3, 4, 5] 6 2 (by kernel_rfl) (by kernel_rfl) (by kernel_rfl) ?_
  refine wpM_det rfl ?_
  apply Exists.intro
  refine ⟨?_, ?_⟩
  · intro vs w' hC hk
    (try simp [Know.add, depOn, Region.binds] at hk)
    go_simp
    exact ⟨Below.refl _ _, rfl⟩
  refine wpM_det rfl ?_
  apply Exists.intro
  refine ⟨?_, ?_⟩
  · intro vs w' hC hk
    (try simp [Know.add, depOn, Region.binds] at hk)
    go_simp
    exact ⟨Below.refl _ _, rfl⟩
  refine wpM_det rfl ?_
  apply Exists.intro
  refine ⟨?_, ?_⟩
  · intro vs w' hC hk
    (try simp [Know.add, depOn, Region.binds] at hk)
    go_simp
    exact ⟨Below.refl _ _, rfl⟩
  refine wpM_det rfl ?_
  apply Exists.intro
  refine ⟨?_, ?_⟩
  · intro vs w' hC hk
    (try simp [Know.add, depOn, Region.binds] at hk)
    go_simp
    exact ⟨Below.refl _ _, rfl⟩
  refine wpM_det rfl ?_
  apply Exists.intro
  refine ⟨?_, ?_⟩
  · intro vs w' hC hk
    (try simp [Know.add, depOn, Region.binds] at hk)
    go_simp
    exact ⟨Below.refl _ _, rfl⟩
  refine wpM_det rfl ?_
  apply Exists.intro
  refine ⟨?_, ?_⟩
  · intro vs w' hC hk
    (try simp [Know.add, depOn, Region.binds] at hk)
    go_simp
    exact ⟨Below.refl _ _, rfl⟩
  refine wpM_nil ?_
  intro vs V hC hk
  have h3 : vs 3 = .func (.func 30) #[] #[] := hk.1.1.2 (by kernel_rfl)
  have h4 : vs 4 = .pointer (some ⟨p, 0, none⟩) := hk.1.2 (by kernel_rfl)
  have h5 : vs 5 = .agg #[.int .i64 0, .string i, .string v, .float .f64 x] := hk.2 (by kernel_rfl)
  clear hk t0 t1 t2 t3
  have s5 := S4.out.below hC
  have S5 := Lib.hid s5
  clear hC s5
  go_simp
  refine wpAny_one 6 ?_ rfl ?_
  · kernel_rfl
  intro K hK
  rw [if_pos (by rfl)]
  go_simp
  refine (HC.out _ S5.out.pl).mono ?_; rintro e V2 ⟨rfl, hpl, hmp⟩
  have hp5 := S5.out.hp
  have hb5 := S5.out.hb
  have hlt := lt_of_rowR S5.out.rp
  have rp2 := (hmp.block _ hlt (by omega) (by omega)).trans S5.out.rp
  have rq2 := (hmp.block _ (lt_of_rowR S5.out.rq) (by omega) (by omega)).trans S5.out.rq
  have s6 : St w p b m now q g _ _ V2 := ⟨rq2, rp2, hpl, S5.out.mp.trans hmp, hp5, hb5⟩
  have S6 := Lib.hid s6
  have ONE : Hid ((#[.int .i64 ye, .string yv, .int .u64 (yd : Int)] : Array Value).all (·.oneCell') = true) := Lib.hid (by simp [Value.oneCell'])
  have hrow := setRow_heap V2 (w.heap.size + 1) _ #[.int .i64 ye, .string yv, .int .u64 (yd : Int)] _ _ rp2
  have HROW := Lib.hid hrow
  clear hrow s6 rq2 rp2 hpl hmp hp5 hb5 hlt
  refine hK _ _ ?_
  clear hK K
  go_simp
  refine wpAny_one 7 ?_ rfl ?_
  · kernel_rfl
  intro K hK
  rw [if_pos (by rfl)]
  refine wp_store_row 41 _ _ rfl (w.heap.size + 1) #[.int .i64 ye, .string yv, .int .u64 (yd : Int)] rfl rfl _ _ S6.out.rp (by kernel_rfl) rfl ONE.out ?_
  refine hK _ _ ?_
  clear hK K
  refine wpAny_done (by kernel_rfl) ?_ _
  go_frame
  go_wp2_with fail
  refine bodyPost_ret (v := .agg #[.int .i64 ye, .string yv, .int .u64 (yd : Int)]) ?_ rfl ⟨rfl, S6.out.fin _⟩
  exact results_cell_row (p := 4) (ty := 41) rfl _ _ (w.heap.size + 1) 41 _ (0, 0) _ rfl HROW.out Try.underlying41 rfl (by kernel_rfl)

set_option maxRecDepth 100000 in
set_option maxHeartbeats 4000000 in
theorem Do_1 (w : World) (p b n m now : Nat) (q : Int) (f g : ByteArray → Option Ses) (r : Rq) (y : Rp) (h : PL w p b n now q f) (hr : r.Kind) (hve : validE r = 0) (hk : r.kind = 1) (hz : liv now f r.id = true)
    (hc : ∀ W, PL W p b n now q f → Calls Try.prog 31 #[.pointer (some ⟨p, 0, none⟩), .agg r.row] W fun e w' => e = .returned (.agg y.row) ∧ PL w' p b m now q g ∧ Mp p b W w') :
    Calls Try.prog 14 #[.pointer (some ⟨p, 0, none⟩), .agg r.row] w fun e w' => e = .returned (.agg y.row) ∧ PL w' p b m now q g ∧ Mp p b w w' := by
  have hst := St.start (r := r) h
  have hval := fun W => Valid_val r W hr
  rw [hve] at hval
  clear hve
  have hfind := fun W (hW : PL W p b n now q f) => find_val W p b n now q f r.id hW hr.id
  obtain ⟨s, hs⟩ : ∃ s, s = (f r.id).getD Ses.zero := ⟨_, rfl⟩
  simp only [← hs, hz] at hfind
  obtain ⟨si, sv, sd⟩ := s
  simp only [Ses.row] at hfind
  have HF := Lib.hid hfind
  clear hs hz hfind hr
  obtain ⟨ye, yv, yd⟩ := y
  have HC := Lib.hid hc
  clear hc
  obtain ⟨k, i, v, x⟩ := r
  simp only [Rq.row, Rp.row, Rp.bad] at hst hval hk HF HC ⊢
  have ST := Lib.hid hst
  have HV := Lib.hid hval
  subst hk
  clear h hst hval
  go_enter Try.func14, Try.ntmps14
  go_wp2_with fail
  refine (HV.out _).mono ?_; rintro e w2 ⟨rfl, b2⟩
  have s2 := ST.out.below b2
  have S2 := Lib.hid s2
  clear b2 s2
  obtain ⟨c0, c1, c2, c3⟩ := S2.out.cells
  go_wp2_with fail
  clear c0 c1 c2 c3
  have ff := HF.out _ S2.out.pl
  refine ff.mono ?_; rintro e w3 ⟨rfl, b3⟩
  clear ff
  have s3 := S2.out.below b3
  have s4 := s3.below ((Below.refl w3.heap.size w3).alloc (Nat.le_refl _) (.cells #[.string si, .string sv, .int .u64 (sd : Int)] 70))
  have S4 := Lib.hid s4
  obtain ⟨c0, c1, c2, c3⟩ := S4.out.cells
  clear b3 s3 s4
  go_wp2_with fail
  clear c0 c1 c2 c3
  obtain ⟨W4, hW4⟩ : ∃ W, W = w3.alloc (.cells #[.string si, .string sv, .int .u64 (sd : Int)] 70) := ⟨_, rfl⟩
  rw [← hW4] at S4
  rw [← hW4]
  clear hW4
  have t0 : ∀ V', Below W4.heap.size W4 V' → V'.cell? ⟨w.heap.size, 0, none⟩ = some (.int .i64 1) := fun V' hV => (S4.out.below hV).cells.1
  have t1 : ∀ V', Below W4.heap.size W4 V' → V'.cell? ⟨w.heap.size, 1, none⟩ = some (.string i) := fun V' hV => (S4.out.below hV).cells.2.1
  have t2 : ∀ V', Below W4.heap.size W4 V' → V'.cell? ⟨w.heap.size, 2, none⟩ = some (.string v) := fun V' hV => (S4.out.below hV).cells.2.2.1
  have t3 : ∀ V', Below W4.heap.size W4 V' → V'.cell? ⟨w.heap.size, 3, none⟩ = some (.float .f64 x) := fun V' hV => (S4.out.below hV).cells.2.2.2
  refine wp_region_tail [0, 1, 2, 3, 4, 5] 6 2 (by kernel_rfl) (by kernel_rfl) (by kernel_rfl) ?_
  refine wpM_det rfl ?_
  apply Exists.intro
  refine ⟨?_, ?_⟩
  · intro vs w' hC hk
    (try simp [Know.add, depOn, Region.binds] at hk)
    go_simp
    exact ⟨Below.refl _ _, rfl⟩
  refine wpM_det rfl ?_
  apply Exists.intro
  refine ⟨?_, ?_⟩
  · intro vs w' hC hk
    (try simp [Know.add, depOn, Region.binds] at hk)
    go_simp
    exact ⟨Below.refl _ _, rfl⟩
  refine wpM_det rfl ?_
  apply Exists.intro
  refine ⟨?_, ?_⟩
  · intro vs w' hC hk
    (try simp [Know.add, depOn, Region.binds] at hk)
    go_simp
    exact ⟨Below.refl _ _, rfl⟩
  refine wpM_det rfl ?_
  apply Exists.intro
  refine ⟨?_, ?_⟩
  · intro vs w' hC hk
    (try simp [Know.add, depOn, Region.binds] at hk)
    go_simp
    exact ⟨Below.refl _ _, rfl⟩
  refine wpM_det rfl ?_
  apply Exists.intro
  refine ⟨?_, ?_⟩
  · intro vs w' hC hk
    (try simp [Know.add, depOn, Region.binds] at hk)
    go_simp
    exact ⟨Below.refl _ _, rfl⟩
  refine wpM_det rfl ?_
  apply Exists.intro
  refine ⟨?_, ?_⟩
  · intro vs w' hC hk
    (try simp [Know.add, depOn, Region.binds] at hk)
    go_simp
    exact ⟨Below.refl _ _, rfl⟩
  refine wpM_nil ?_
  intro vs V hC hk
  have h3 : vs 3 = .func (.func 31) #[] #[] := hk.1.1.2 (by kernel_rfl)
  have h4 : vs 4 = .pointer (some ⟨p, 0, none⟩) := hk.1.2 (by kernel_rfl)
  have h5 : vs 5 = .agg #[.int .i64 1, .string i, .string v, .float .f64 x] := hk.2 (by kernel_rfl)
  clear hk t0 t1 t2 t3
  have s5 := S4.out.below hC
  have S5 := Lib.hid s5
  clear hC s5
  go_simp
  refine wpAny_one 6 ?_ rfl ?_
  · kernel_rfl
  intro K hK
  rw [if_pos (by rfl)]
  go_simp
  refine (HC.out _ S5.out.pl).mono ?_; rintro e V2 ⟨rfl, hpl, hmp⟩
  have hp5 := S5.out.hp
  have hb5 := S5.out.hb
  have hlt := lt_of_rowR S5.out.rp
  have rp2 := (hmp.block _ hlt (by omega) (by omega)).trans S5.out.rp
  have rq2 := (hmp.block _ (lt_of_rowR S5.out.rq) (by omega) (by omega)).trans S5.out.rq
  have s6 : St w p b m now q g _ _ V2 := ⟨rq2, rp2, hpl, S5.out.mp.trans hmp, hp5, hb5⟩
  have S6 := Lib.hid s6
  have ONE : Hid ((#[.int .i64 ye, .string yv, .int .u64 (yd : Int)] : Array Value).all (·.oneCell') = true) := Lib.hid (by simp [Value.oneCell'])
  have hrow := setRow_heap V2 (w.heap.size + 1) _ #[.int .i64 ye, .string yv, .int .u64 (yd : Int)] _ _ rp2
  have HROW := Lib.hid hrow
  clear hrow s6 rq2 rp2 hpl hmp hp5 hb5 hlt
  refine hK _ _ ?_
  clear hK K
  go_simp
  refine wpAny_one 7 ?_ rfl ?_
  · kernel_rfl
  intro K hK
  rw [if_pos (by rfl)]
  refine wp_store_row 41 _ _ rfl (w.heap.size + 1) #[.int .i64 ye, .string yv, .int .u64 (yd : Int)] rfl rfl _ _ S6.out.rp (by kernel_rfl) rfl ONE.out ?_
  refine hK _ _ ?_
  clear hK K
  refine wpAny_done (by kernel_rfl) ?_ _
  go_frame
  go_wp2_with fail
  refine bodyPost_ret (v := .agg #[.int .i64 ye, .string yv, .int .u64 (yd : Int)]) ?_ rfl ⟨rfl, S6.out.fin _⟩
  exact results_cell_row (p := 4) (ty := 41) rfl _ _ (w.heap.size + 1) 41 _ (0, 0) _ rfl HROW.out Try.underlying41 rfl (by kernel_rfl)

set_option maxRecDepth 100000 in
set_option maxHeartbeats 4000000 in
theorem Do_2 (w : World) (p b n m now : Nat) (q : Int) (f g : ByteArray → Option Ses) (r : Rq) (y : Rp) (h : PL w p b n now q f) (hr : r.Kind) (hve : validE r = 0) (hk : r.kind = 2) (hz : liv now f r.id = true)
    (hc : ∀ W, PL W p b n now q f → Calls Try.prog 32 #[.pointer (some ⟨p, 0, none⟩), .agg r.row] W fun e w' => e = .returned (.agg y.row) ∧ PL w' p b m now q g ∧ Mp p b W w') :
    Calls Try.prog 14 #[.pointer (some ⟨p, 0, none⟩), .agg r.row] w fun e w' => e = .returned (.agg y.row) ∧ PL w' p b m now q g ∧ Mp p b w w' := by
  have hst := St.start (r := r) h
  have hval := fun W => Valid_val r W hr
  rw [hve] at hval
  clear hve
  have hfind := fun W (hW : PL W p b n now q f) => find_val W p b n now q f r.id hW hr.id
  obtain ⟨s, hs⟩ : ∃ s, s = (f r.id).getD Ses.zero := ⟨_, rfl⟩
  simp only [← hs, hz] at hfind
  obtain ⟨si, sv, sd⟩ := s
  simp only [Ses.row] at hfind
  have HF := Lib.hid hfind
  clear hs hz hfind hr
  obtain ⟨ye, yv, yd⟩ := y
  have HC := Lib.hid hc
  clear hc
  obtain ⟨k, i, v, x⟩ := r
  simp only [Rq.row, Rp.row, Rp.bad] at hst hval hk HF HC ⊢
  have ST := Lib.hid hst
  have HV := Lib.hid hval
  subst hk
  clear h hst hval
  go_enter Try.func14, Try.ntmps14
  go_wp2_with fail
  refine (HV.out _).mono ?_; rintro e w2 ⟨rfl, b2⟩
  have s2 := ST.out.below b2
  have S2 := Lib.hid s2
  clear b2 s2
  obtain ⟨c0, c1, c2, c3⟩ := S2.out.cells
  go_wp2_with fail
  clear c0 c1 c2 c3
  have ff := HF.out _ S2.out.pl
  refine ff.mono ?_; rintro e w3 ⟨rfl, b3⟩
  clear ff
  have s3 := S2.out.below b3
  have s4 := s3.below ((Below.refl w3.heap.size w3).alloc (Nat.le_refl _) (.cells #[.string si, .string sv, .int .u64 (sd : Int)] 70))
  have S4 := Lib.hid s4
  obtain ⟨c0, c1, c2, c3⟩ := S4.out.cells
  clear b3 s3 s4
  go_wp2_with fail
  clear c0 c1 c2 c3
  obtain ⟨W4, hW4⟩ : ∃ W, W = w3.alloc (.cells #[.string si, .string sv, .int .u64 (sd : Int)] 70) := ⟨_, rfl⟩
  rw [← hW4] at S4
  rw [← hW4]
  clear hW4
  have t0 : ∀ V', Below W4.heap.size W4 V' → V'.cell? ⟨w.heap.size, 0, none⟩ = some (.int .i64 2) := fun V' hV => (S4.out.below hV).cells.1
  have t1 : ∀ V', Below W4.heap.size W4 V' → V'.cell? ⟨w.heap.size, 1, none⟩ = some (.string i) := fun V' hV => (S4.out.below hV).cells.2.1
  have t2 : ∀ V', Below W4.heap.size W4 V' → V'.cell? ⟨w.heap.size, 2, none⟩ = some (.string v) := fun V' hV => (S4.out.below hV).cells.2.2.1
  have t3 : ∀ V', Below W4.heap.size W4 V' → V'.cell? ⟨w.heap.size, 3, none⟩ = some (.float .f64 x) := fun V' hV => (S4.out.below hV).cells.2.2.2
  refine wp_region_tail [0, 1, 2, 3, 4, 5] 6 2 (by kernel_rfl) (by kernel_rfl) (by kernel_rfl) ?_
  refine wpM_det rfl ?_
  apply Exists.intro
  refine ⟨?_, ?_⟩
  · intro vs w' hC hk
    (try simp [Know.add, depOn, Region.binds] at hk)
    go_simp
    exact ⟨Below.refl _ _, rfl⟩
  refine wpM_det rfl ?_
  apply Exists.intro
  refine ⟨?_, ?_⟩
  · intro vs w' hC hk
    (try simp [Know.add, depOn, Region.binds] at hk)
    go_simp
    exact ⟨Below.refl _ _, rfl⟩
  refine wpM_det rfl ?_
  apply Exists.intro
  refine ⟨?_, ?_⟩
  · intro vs w' hC hk
    (try simp [Know.add, depOn, Region.binds] at hk)
    go_simp
    exact ⟨Below.refl _ _, rfl⟩
  refine wpM_det rfl ?_
  apply Exists.intro
  refine ⟨?_, ?_⟩
  · intro vs w' hC hk
    (try simp [Know.add, depOn, Region.binds] at hk)
    go_simp
    exact ⟨Below.refl _ _, rfl⟩
  refine wpM_det rfl ?_
  apply Exists.intro
  refine ⟨?_, ?_⟩
  · intro vs w' hC hk
    (try simp [Know.add, depOn, Region.binds] at hk)
    go_simp
    exact ⟨Below.refl _ _, rfl⟩
  refine wpM_det rfl ?_
  apply Exists.intro
  refine ⟨?_, ?_⟩
  · intro vs w' hC hk
    (try simp [Know.add, depOn, Region.binds] at hk)
    go_simp
    exact ⟨Below.refl _ _, rfl⟩
  refine wpM_nil ?_
  intro vs V hC hk
  have h3 : vs 3 = .func (.func 32) #[] #[] := hk.1.1.2 (by kernel_rfl)
  have h4 : vs 4 = .pointer (some ⟨p, 0, none⟩) := hk.1.2 (by kernel_rfl)
  have h5 : vs 5 = .agg #[.int .i64 2, .string i, .string v, .float .f64 x] := hk.2 (by kernel_rfl)
  clear hk t0 t1 t2 t3
  have s5 := S4.out.below hC
  have S5 := Lib.hid s5
  clear hC s5
  go_simp
  refine wpAny_one 6 ?_ rfl ?_
  · kernel_rfl
  intro K hK
  rw [if_pos (by rfl)]
  go_simp
  refine (HC.out _ S5.out.pl).mono ?_; rintro e V2 ⟨rfl, hpl, hmp⟩
  have hp5 := S5.out.hp
  have hb5 := S5.out.hb
  have hlt := lt_of_rowR S5.out.rp
  have rp2 := (hmp.block _ hlt (by omega) (by omega)).trans S5.out.rp
  have rq2 := (hmp.block _ (lt_of_rowR S5.out.rq) (by omega) (by omega)).trans S5.out.rq
  have s6 : St w p b m now q g _ _ V2 := ⟨rq2, rp2, hpl, S5.out.mp.trans hmp, hp5, hb5⟩
  have S6 := Lib.hid s6
  have ONE : Hid ((#[.int .i64 ye, .string yv, .int .u64 (yd : Int)] : Array Value).all (·.oneCell') = true) := Lib.hid (by simp [Value.oneCell'])
  have hrow := setRow_heap V2 (w.heap.size + 1) _ #[.int .i64 ye, .string yv, .int .u64 (yd : Int)] _ _ rp2
  have HROW := Lib.hid hrow
  clear hrow s6 rq2 rp2 hpl hmp hp5 hb5 hlt
  refine hK _ _ ?_
  clear hK K
  go_simp
  refine wpAny_one 7 ?_ rfl ?_
  · kernel_rfl
  intro K hK
  rw [if_pos (by rfl)]
  refine wp_store_row 41 _ _ rfl (w.heap.size + 1) #[.int .i64 ye, .string yv, .int .u64 (yd : Int)] rfl rfl _ _ S6.out.rp (by kernel_rfl) rfl ONE.out ?_
  refine hK _ _ ?_
  clear hK K
  refine wpAny_done (by kernel_rfl) ?_ _
  go_frame
  go_wp2_with fail
  refine bodyPost_ret (v := .agg #[.int .i64 ye, .string yv, .int .u64 (yd : Int)]) ?_ rfl ⟨rfl, S6.out.fin _⟩
  exact results_cell_row (p := 4) (ty := 41) rfl _ _ (w.heap.size + 1) 41 _ (0, 0) _ rfl HROW.out Try.underlying41 rfl (by kernel_rfl)

set_option maxRecDepth 100000 in
set_option maxHeartbeats 4000000 in
theorem Do_3 (w : World) (p b n m now : Nat) (q : Int) (f g : ByteArray → Option Ses) (r : Rq) (y : Rp) (h : PL w p b n now q f) (hr : r.Kind) (hve : validE r = 0) (hk : r.kind = 3) (hz : liv now f r.id = true)
    (hc : ∀ W, PL W p b n now q f → Calls Try.prog 33 #[.pointer (some ⟨p, 0, none⟩), .agg r.row] W fun e w' => e = .returned (.agg y.row) ∧ PL w' p b m now q g ∧ Mp p b W w') :
    Calls Try.prog 14 #[.pointer (some ⟨p, 0, none⟩), .agg r.row] w fun e w' => e = .returned (.agg y.row) ∧ PL w' p b m now q g ∧ Mp p b w w' := by
  have hst := St.start (r := r) h
  have hval := fun W => Valid_val r W hr
  rw [hve] at hval
  clear hve
  have hfind := fun W (hW : PL W p b n now q f) => find_val W p b n now q f r.id hW hr.id
  obtain ⟨s, hs⟩ : ∃ s, s = (f r.id).getD Ses.zero := ⟨_, rfl⟩
  simp only [← hs, hz] at hfind
  obtain ⟨si, sv, sd⟩ := s
  simp only [Ses.row] at hfind
  have HF := Lib.hid hfind
  clear hs hz hfind hr
  obtain ⟨ye, yv, yd⟩ := y
  have HC := Lib.hid hc
  clear hc
  obtain ⟨k, i, v, x⟩ := r
  simp only [Rq.row, Rp.row, Rp.bad] at hst hval hk HF HC ⊢
  have ST := Lib.hid hst
  have HV := Lib.hid hval
  subst hk
  clear h hst hval
  go_enter Try.func14, Try.ntmps14
  go_wp2_with fail
  refine (HV.out _).mono ?_; rintro e w2 ⟨rfl, b2⟩
  have s2 := ST.out.below b2
  have S2 := Lib.hid s2
  clear b2 s2
  obtain ⟨c0, c1, c2, c3⟩ := S2.out.cells
  go_wp2_with fail
  clear c0 c1 c2 c3
  have ff := HF.out _ S2.out.pl
  refine ff.mono ?_; rintro e w3 ⟨rfl, b3⟩
  clear ff
  have s3 := S2.out.below b3
  have s4 := s3.below ((Below.refl w3.heap.size w3).alloc (Nat.le_refl _) (.cells #[.string si, .string sv, .int .u64 (sd : Int)] 70))
  have S4 := Lib.hid s4
  obtain ⟨c0, c1, c2, c3⟩ := S4.out.cells
  clear b3 s3 s4
  go_wp2_with fail
  clear c0 c1 c2 c3
  obtain ⟨W4, hW4⟩ : ∃ W, W = w3.alloc (.cells #[.string si, .string sv, .int .u64 (sd : Int)] 70) := ⟨_, rfl⟩
  rw [← hW4] at S4
  rw [← hW4]
  clear hW4
  have t0 : ∀ V', Below W4.heap.size W4 V' → V'.cell? ⟨w.heap.size, 0, none⟩ = some (.int .i64 3) := fun V' hV => (S4.out.below hV).cells.1
  have t1 : ∀ V', Below W4.heap.size W4 V' → V'.cell? ⟨w.heap.size, 1, none⟩ = some (.string i) := fun V' hV => (S4.out.below hV).cells.2.1
  have t2 : ∀ V', Below W4.heap.size W4 V' → V'.cell? ⟨w.heap.size, 2, none⟩ = some (.string v) := fun V' hV => (S4.out.below hV).cells.2.2.1
  have t3 : ∀ V', Below W4.heap.size W4 V' → V'.cell? ⟨w.heap.size, 3, none⟩ = some (.float .f64 x) := fun V' hV => (S4.out.below hV).cells.2.2.2
  refine wp_region_tail [0, 1, 2, 3, 4, 5] 6 2 (by kernel_rfl) (by kernel_rfl) (by kernel_rfl) ?_
  refine wpM_det rfl ?_
  apply Exists.intro
  refine ⟨?_, ?_⟩
  · intro vs w' hC hk
    (try simp [Know.add, depOn, Region.binds] at hk)
    go_simp
    exact ⟨Below.refl _ _, rfl⟩
  refine wpM_det rfl ?_
  apply Exists.intro
  refine ⟨?_, ?_⟩
  · intro vs w' hC hk
    (try simp [Know.add, depOn, Region.binds] at hk)
    go_simp
    exact ⟨Below.refl _ _, rfl⟩
  refine wpM_det rfl ?_
  apply Exists.intro
  refine ⟨?_, ?_⟩
  · intro vs w' hC hk
    (try simp [Know.add, depOn, Region.binds] at hk)
    go_simp
    exact ⟨Below.refl _ _, rfl⟩
  refine wpM_det rfl ?_
  apply Exists.intro
  refine ⟨?_, ?_⟩
  · intro vs w' hC hk
    (try simp [Know.add, depOn, Region.binds] at hk)
    go_simp
    exact ⟨Below.refl _ _, rfl⟩
  refine wpM_det rfl ?_
  apply Exists.intro
  refine ⟨?_, ?_⟩
  · intro vs w' hC hk
    (try simp [Know.add, depOn, Region.binds] at hk)
    go_simp
    exact ⟨Below.refl _ _, rfl⟩
  refine wpM_det rfl ?_
  apply Exists.intro
  refine ⟨?_, ?_⟩
  · intro vs w' hC hk
    (try simp [Know.add, depOn, Region.binds] at hk)
    go_simp
    exact ⟨Below.refl _ _, rfl⟩
  refine wpM_nil ?_
  intro vs V hC hk
  have h3 : vs 3 = .func (.func 33) #[] #[] := hk.1.1.2 (by kernel_rfl)
  have h4 : vs 4 = .pointer (some ⟨p, 0, none⟩) := hk.1.2 (by kernel_rfl)
  have h5 : vs 5 = .agg #[.int .i64 3, .string i, .string v, .float .f64 x] := hk.2 (by kernel_rfl)
  clear hk t0 t1 t2 t3
  have s5 := S4.out.below hC
  have S5 := Lib.hid s5
  clear hC s5
  go_simp
  refine wpAny_one 6 ?_ rfl ?_
  · kernel_rfl
  intro K hK
  rw [if_pos (by rfl)]
  go_simp
  refine (HC.out _ S5.out.pl).mono ?_; rintro e V2 ⟨rfl, hpl, hmp⟩
  have hp5 := S5.out.hp
  have hb5 := S5.out.hb
  have hlt := lt_of_rowR S5.out.rp
  have rp2 := (hmp.block _ hlt (by omega) (by omega)).trans S5.out.rp
  have rq2 := (hmp.block _ (lt_of_rowR S5.out.rq) (by omega) (by omega)).trans S5.out.rq
  have s6 : St w p b m now q g _ _ V2 := ⟨rq2, rp2, hpl, S5.out.mp.trans hmp, hp5, hb5⟩
  have S6 := Lib.hid s6
  have ONE : Hid ((#[.int .i64 ye, .string yv, .int .u64 (yd : Int)] : Array Value).all (·.oneCell') = true) := Lib.hid (by simp [Value.oneCell'])
  have hrow := setRow_heap V2 (w.heap.size + 1) _ #[.int .i64 ye, .string yv, .int .u64 (yd : Int)] _ _ rp2
  have HROW := Lib.hid hrow
  clear hrow s6 rq2 rp2 hpl hmp hp5 hb5 hlt
  refine hK _ _ ?_
  clear hK K
  go_simp
  refine wpAny_one 7 ?_ rfl ?_
  · kernel_rfl
  intro K hK
  rw [if_pos (by rfl)]
  refine wp_store_row 41 _ _ rfl (w.heap.size + 1) #[.int .i64 ye, .string yv, .int .u64 (yd : Int)] rfl rfl _ _ S6.out.rp (by kernel_rfl) rfl ONE.out ?_
  refine hK _ _ ?_
  clear hK K
  refine wpAny_done (by kernel_rfl) ?_ _
  go_frame
  go_wp2_with fail
  refine bodyPost_ret (v := .agg #[.int .i64 ye, .string yv, .int .u64 (yd : Int)]) ?_ rfl ⟨rfl, S6.out.fin _⟩
  exact results_cell_row (p := 4) (ty := 41) rfl _ _ (w.heap.size + 1) 41 _ (0, 0) _ rfl HROW.out Try.underlying41 rfl (by kernel_rfl)

set_option maxRecDepth 100000 in
set_option maxHeartbeats 4000000 in
theorem Do_4 (w : World) (p b n m now : Nat) (q : Int) (f g : ByteArray → Option Ses) (r : Rq) (y : Rp) (h : PL w p b n now q f) (hr : r.Kind) (hve : validE r = 0) (hk : r.kind = 4) (hz : liv now f r.id = true)
    (hc : ∀ W, PL W p b n now q f → Calls Try.prog 34 #[.pointer (some ⟨p, 0, none⟩), .agg r.row] W fun e w' => e = .returned (.agg y.row) ∧ PL w' p b m now q g ∧ Mp p b W w') :
    Calls Try.prog 14 #[.pointer (some ⟨p, 0, none⟩), .agg r.row] w fun e w' => e = .returned (.agg y.row) ∧ PL w' p b m now q g ∧ Mp p b w w' := by
  have hst := St.start (r := r) h
  have hval := fun W => Valid_val r W hr
  rw [hve] at hval
  clear hve
  have hfind := fun W (hW : PL W p b n now q f) => find_val W p b n now q f r.id hW hr.id
  obtain ⟨s, hs⟩ : ∃ s, s = (f r.id).getD Ses.zero := ⟨_, rfl⟩
  simp only [← hs, hz] at hfind
  obtain ⟨si, sv, sd⟩ := s
  simp only [Ses.row] at hfind
  have HF := Lib.hid hfind
  clear hs hz hfind hr
  obtain ⟨ye, yv, yd⟩ := y
  have HC := Lib.hid hc
  clear hc
  obtain ⟨k, i, v, x⟩ := r
  simp only [Rq.row, Rp.row, Rp.bad] at hst hval hk HF HC ⊢
  have ST := Lib.hid hst
  have HV := Lib.hid hval
  subst hk
  clear h hst hval
  go_enter Try.func14, Try.ntmps14
  go_wp2_with fail
  refine (HV.out _).mono ?_; rintro e w2 ⟨rfl, b2⟩
  have s2 := ST.out.below b2
  have S2 := Lib.hid s2
  clear b2 s2
  obtain ⟨c0, c1, c2, c3⟩ := S2.out.cells
  go_wp2_with fail
  clear c0 c1 c2 c3
  have ff := HF.out _ S2.out.pl
  refine ff.mono ?_; rintro e w3 ⟨rfl, b3⟩
  clear ff
  have s3 := S2.out.below b3
  have s4 := s3.below ((Below.refl w3.heap.size w3).alloc (Nat.le_refl _) (.cells #[.string si, .string sv, .int .u64 (sd : Int)] 70))
  have S4 := Lib.hid s4
  obtain ⟨c0, c1, c2, c3⟩ := S4.out.cells
  clear b3 s3 s4
  go_wp2_with fail
  clear c0 c1 c2 c3
  obtain ⟨W4, hW4⟩ : ∃ W, W = w3.alloc (.cells #[.string si, .string sv, .int .u64 (sd : Int)] 70) := ⟨_, rfl⟩
  rw [← hW4] at S4
  rw [← hW4]
  clear hW4
  have t0 : ∀ V', Below W4.heap.size W4 V' → V'.cell? ⟨w.heap.size, 0, none⟩ = some (.int .i64 4) := fun V' hV => (S4.out.below hV).cells.1
  have t1 : ∀ V', Below W4.heap.size W4 V' → V'.cell? ⟨w.heap.size, 1, none⟩ = some (.string i) := fun V' hV => (S4.out.below hV).cells.2.1
  have t2 : ∀ V', Below W4.heap.size W4 V' → V'.cell? ⟨w.heap.size, 2, none⟩ = some (.string v) := fun V' hV => (S4.out.below hV).cells.2.2.1
  have t3 : ∀ V', Below W4.heap.size W4 V' → V'.cell? ⟨w.heap.size, 3, none⟩ = some (.float .f64 x) := fun V' hV => (S4.out.below hV).cells.2.2.2
  refine wp_region_tail [0, 1, 2, 3, 4, 5] 6 2 (by kernel_rfl) (by kernel_rfl) (by kernel_rfl) ?_
  refine wpM_det rfl ?_
  apply Exists.intro
  refine ⟨?_, ?_⟩
  · intro vs w' hC hk
    (try simp [Know.add, depOn, Region.binds] at hk)
    go_simp
    exact ⟨Below.refl _ _, rfl⟩
  refine wpM_det rfl ?_
  apply Exists.intro
  refine ⟨?_, ?_⟩
  · intro vs w' hC hk
    (try simp [Know.add, depOn, Region.binds] at hk)
    go_simp
    exact ⟨Below.refl _ _, rfl⟩
  refine wpM_det rfl ?_
  apply Exists.intro
  refine ⟨?_, ?_⟩
  · intro vs w' hC hk
    (try simp [Know.add, depOn, Region.binds] at hk)
    go_simp
    exact ⟨Below.refl _ _, rfl⟩
  refine wpM_det rfl ?_
  apply Exists.intro
  refine ⟨?_, ?_⟩
  · intro vs w' hC hk
    (try simp [Know.add, depOn, Region.binds] at hk)
    go_simp
    exact ⟨Below.refl _ _, rfl⟩
  refine wpM_det rfl ?_
  apply Exists.intro
  refine ⟨?_, ?_⟩
  · intro vs w' hC hk
    (try simp [Know.add, depOn, Region.binds] at hk)
    go_simp
    exact ⟨Below.refl _ _, rfl⟩
  refine wpM_det rfl ?_
  apply Exists.intro
  refine ⟨?_, ?_⟩
  · intro vs w' hC hk
    (try simp [Know.add, depOn, Region.binds] at hk)
    go_simp
    exact ⟨Below.refl _ _, rfl⟩
  refine wpM_nil ?_
  intro vs V hC hk
  have h3 : vs 3 = .func (.func 34) #[] #[] := hk.1.1.2 (by kernel_rfl)
  have h4 : vs 4 = .pointer (some ⟨p, 0, none⟩) := hk.1.2 (by kernel_rfl)
  have h5 : vs 5 = .agg #[.int .i64 4, .string i, .string v, .float .f64 x] := hk.2 (by kernel_rfl)
  clear hk t0 t1 t2 t3
  have s5 := S4.out.below hC
  have S5 := Lib.hid s5
  clear hC s5
  go_simp
  refine wpAny_one 6 ?_ rfl ?_
  · kernel_rfl
  intro K hK
  rw [if_pos (by rfl)]
  go_simp
  refine (HC.out _ S5.out.pl).mono ?_; rintro e V2 ⟨rfl, hpl, hmp⟩
  have hp5 := S5.out.hp
  have hb5 := S5.out.hb
  have hlt := lt_of_rowR S5.out.rp
  have rp2 := (hmp.block _ hlt (by omega) (by omega)).trans S5.out.rp
  have rq2 := (hmp.block _ (lt_of_rowR S5.out.rq) (by omega) (by omega)).trans S5.out.rq
  have s6 : St w p b m now q g _ _ V2 := ⟨rq2, rp2, hpl, S5.out.mp.trans hmp, hp5, hb5⟩
  have S6 := Lib.hid s6
  have ONE : Hid ((#[.int .i64 ye, .string yv, .int .u64 (yd : Int)] : Array Value).all (·.oneCell') = true) := Lib.hid (by simp [Value.oneCell'])
  have hrow := setRow_heap V2 (w.heap.size + 1) _ #[.int .i64 ye, .string yv, .int .u64 (yd : Int)] _ _ rp2
  have HROW := Lib.hid hrow
  clear hrow s6 rq2 rp2 hpl hmp hp5 hb5 hlt
  refine hK _ _ ?_
  clear hK K
  go_simp
  refine wpAny_one 7 ?_ rfl ?_
  · kernel_rfl
  intro K hK
  rw [if_pos (by rfl)]
  refine wp_store_row 41 _ _ rfl (w.heap.size + 1) #[.int .i64 ye, .string yv, .int .u64 (yd : Int)] rfl rfl _ _ S6.out.rp (by kernel_rfl) rfl ONE.out ?_
  refine hK _ _ ?_
  clear hK K
  refine wpAny_done (by kernel_rfl) ?_ _
  go_frame
  go_wp2_with fail
  refine bodyPost_ret (v := .agg #[.int .i64 ye, .string yv, .int .u64 (yd : Int)]) ?_ rfl ⟨rfl, S6.out.fin _⟩
  exact results_cell_row (p := 4) (ty := 41) rfl _ _ (w.heap.size + 1) 41 _ (0, 0) _ rfl HROW.out Try.underlying41 rfl (by kernel_rfl)

end Go.Proofs.Ytmbidannodelfaa.G
