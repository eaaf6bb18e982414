/- What is asked of a store: create, where nothing stops it. -/
import Derived.Test.YtmbidannodelfaaPx
namespace Go.Proofs.Ytmbidannodelfaa.G
open Go.RowKit Go.Maps Go.Proofs.Ytmbidannodelfaa.WordPlain Go.Proofs.Ytmbidannodelfaa.Loose
set_option linter.unusedVariables false
set_option linter.unusedSimpArgs false

set_option maxRecDepth 100000 in
set_option maxHeartbeats 4000000 in
theorem create_ok (w : World) (p b n now : Nat) (q : Int) (f : ByteArray → Option Ses) (r : Rq) (L : List Ses) (h : PL w p b n now q f) (hr : r.Kind) (hn : n < 1000000) (hz : liv now f r.id = false) (hL : IsSes now f L) (hq : ¬ q ≤ (L.length : Int)) :
    Calls Try.prog 30 #[.pointer (some ⟨p, 0, none⟩), .agg r.row] w fun e w' => e = .returned (.agg (Rp.mk 0 ⟨#[]⟩ (ddl now r)).row) ∧ PL w' p b (n + 1) now q (upd f r.id (some ⟨r.id, r.va, ddl now r⟩)) ∧ Mp p b w w' := by
  have hsess := fun W (hW : PL W p b n now q f) => sess_is W p b n now q f L hW (by omega) hL
  have HS := Lib.hid hsess
  have HQ := Lib.hid hq
  clear hsess hL hq
  obtain ⟨d, hd⟩ : ∃ d, d = ddl now r := ⟨_, rfl⟩
  have hdead := fun W (hW : PL W p b n now q f) => dead_val W p b n now q f r hW hr
  rw [← hd] at hdead ⊢
  have hids := ids_upd h.ids r.id ⟨r.id, r.va, d⟩ rfl hr.id
  obtain ⟨f', hf'⟩ : ∃ f', f' = upd f r.id (some ⟨r.id, r.va, d⟩) := ⟨_, rfl⟩
  have hst := St.start (r := r) h
  have hrid := hr.id
  have hfind := fun W (hW : PL W p b n now q f) => find_val W p b n now q f r.id hW hrid
  obtain ⟨s, hs⟩ : ∃ s, s = (f r.id).getD Ses.zero := ⟨_, rfl⟩
  simp only [← hs, hz] at hfind
  obtain ⟨k, si, v, x⟩ := r
  obtain ⟨i, sv, sd⟩ := s
  simp only [Rq.row, Ses.row, Rp.row, Rp.bad] at hfind hst hrid hdead hf' hids ⊢
  rw [← hf'] at hids ⊢
  have ST := Lib.hid hst
  have HF := Lib.hid hfind
  have HD := Lib.hid hdead
  have HI := Lib.hid hids
  have HF' := Lib.hid hf'
  clear h hst hfind hs hz hdead hids hf' hd
  go_enter Try.func30, Try.ntmps30
  go_wp2_with fail
  have ff := HF.out _ ST.out.pl
  refine ff.mono ?_; rintro e w3 ⟨rfl, b3⟩
  clear ff
  have s3 := ST.out.below b3
  have s4 := s3.below ((Below.refl w3.heap.size w3).alloc (Nat.le_refl _) (.cells #[.string i, .string sv, .int .u64 (sd : Int)] 70))
  have n4 := heap_alloc_new w3 (.cells #[.string i, .string sv, .int .u64 (sd : Int)] 70)
  have S4 := Lib.hid s4
  have N4 := Lib.hid n4
  have hA : w.heap.size + 2 ≤ w3.heap.size := by have := lt_of_rowR s3.rp; omega
  obtain ⟨c0, c1, c2, c3⟩ := S4.out.cells
  clear b3 s3 s4 n4
  go_wp2_with fail
  clear c0 c1 c2 c3
  obtain ⟨W4, hW4⟩ : ∃ W, W = w3.alloc (.cells #[.string i, .string sv, .int .u64 (sd : Int)] 70) := ⟨_, rfl⟩
  rw [← hW4] at S4
  rw [← hW4]
  clear hW4 N4
  have q4 : ∀ V, Below W4.heap.size W4 V → V.cell? ⟨p, 1, none⟩ = some (.int .i64 q) := fun V hV => (S4.out.below hV).store.2.1
  refine wp_region_loose (by kernel_rfl) (by kernel_rfl) ?_
  refine wpL_det ?_
  apply Exists.intro
  refine ⟨?_, ?_⟩
  · intro vs w' hC hk
    (try simp [Know.add, depOn, Region.binds] at hk)
    go_simp
    exact ⟨Below.refl _ _, rfl⟩
  refine wpL_step (fun u _ => ∃ oa cap, u = .slice oa L.length cap) (fun v w w' h _ => h) ?_ ?_
  · intro vs w' hC hk
    (try simp [Know.add, depOn, Region.binds] at hk)
    go_simp
    have hs := HS.out w' (S4.out.below hC).pl
    refine hs.mono ?_
    rintro e w'' ⟨⟨u, rfl, hl⟩, hb⟩
    exact ⟨u, rfl, hb, hl.form⟩
  refine wpL_det ?_
  refine ⟨.int .i64 (L.length : Int), ?_, ?_⟩
  · intro vs w' hC hk
    have h1 : ∃ oa cap, vs 1 = .slice oa L.length cap := hk.2 (by kernel_rfl)
    clear hk
    obtain ⟨oa, cap, h1⟩ := h1
    go_simp
    exact Below.refl _ _
  refine wpL_det ?_
  apply Exists.intro
  refine ⟨?_, ?_⟩
  · intro vs w' hC hk
    (try simp [Know.add, depOn, Region.binds] at hk)
    go_simp
    exact ⟨Below.refl _ _, rfl⟩
  refine wpL_det ?_
  apply Exists.intro
  refine ⟨?_, ?_⟩
  · intro vs w' hC hk
    (try simp [Know.add, depOn, Region.binds] at hk)
    go_simp
    exact ⟨Below.refl _ _, rfl⟩
  refine wpL_det ?_
  apply Exists.intro
  refine ⟨?_, ?_⟩
  · intro vs w' hC hk
    (try simp [Know.add, depOn, Region.binds] at hk)
    go_simp
    exact ⟨Below.refl _ _, rfl⟩
  refine wpL_det ?_
  apply Exists.intro
  refine ⟨?_, ?_⟩
  · intro vs w' hC hk
    (try simp [Know.add, depOn, Region.binds] at hk)
    go_simp
    exact ⟨Below.refl _ _, rfl⟩
  refine wpL_det ?_
  apply Exists.intro
  refine ⟨?_, ?_⟩
  · intro vs w' hC hk
    (try simp [Know.add, depOn, Region.binds] at hk)
    go_simp
    exact ⟨Below.refl _ _, rfl⟩
  refine wpL_nil ?_
  intro vs V hC hk
  have h7 : vs 7 = .bool (decide (q ≤ (L.length : Int))) := hk.2 (by kernel_rfl)
  clear hk q4
  go_frame
  have S5 := Lib.hid (S4.out.below hC)
  rw [decide_eq_false (show ¬ q ≤ (L.length : Int) by have := HQ.out; omega)] at h7
  simp only [Nat.zero_add, Nat.reduceAdd, h7]
  clear h7 hC S4
  go_wp2_with fail
  have r5 : ∀ V', Below V.heap.size V V' → V'.cell? ⟨w.heap.size, 0, none⟩ = some (.int .i64 k) ∧ V'.cell? ⟨w.heap.size, 1, none⟩ = some (.string si) ∧ V'.cell? ⟨w.heap.size, 2, none⟩ = some (.string v) ∧ V'.cell? ⟨w.heap.size, 3, none⟩ = some (.float .f64 x) := fun V' hV => (S5.out.below hV).cells
  have t0 : ∀ V', Below V.heap.size V V' → V'.cell? ⟨w.heap.size, 0, none⟩ = some (.int .i64 k) := fun V' hV => (r5 V' hV).1
  have t1 : ∀ V', Below V.heap.size V V' → V'.cell? ⟨w.heap.size, 1, none⟩ = some (.string si) := fun V' hV => (r5 V' hV).2.1
  have t2 : ∀ V', Below V.heap.size V V' → V'.cell? ⟨w.heap.size, 2, none⟩ = some (.string v) := fun V' hV => (r5 V' hV).2.2.1
  have t3 : ∀ V', Below V.heap.size V V' → V'.cell? ⟨w.heap.size, 3, none⟩ = some (.float .f64 x) := fun V' hV => (r5 V' hV).2.2.2
  clear r5
  refine wp_region_tail [0, 1, 2, 3, 4, 5, 6, 7, 8] 9 1 (by kernel_rfl) (by kernel_rfl) (by kernel_rfl) ?_
  refine wpM_det rfl ?_
  apply Exists.intro
  refine ⟨?_, ?_⟩
  · intro vs w' hC hk
    (try simp [Know.add, depOn, Region.binds] at hk)
    go_simp
    exact ⟨Below.refl _ _, rfl⟩
  refine wpM_det rfl ?_
  apply Exists.intro
  refine ⟨?_, ?_⟩
  · intro vs w' hC hk
    (try simp [Know.add, depOn, Region.binds] at hk)
    go_simp
    exact ⟨Below.refl _ _, rfl⟩
  refine wpM_det rfl ?_
  apply Exists.intro
  refine ⟨?_, ?_⟩
  · intro vs w' hC hk
    (try simp [Know.add, depOn, Region.binds] at hk)
    go_simp
    exact ⟨Below.refl _ _, rfl⟩
  refine wpM_det rfl ?_
  apply Exists.intro
  refine ⟨?_, ?_⟩
  · intro vs w' hC hk
    (try simp [Know.add, depOn, Region.binds] at hk)
    go_simp
    exact ⟨Below.refl _ _, rfl⟩
  refine wpM_det rfl ?_
  apply Exists.intro
  refine ⟨?_, ?_⟩
  · intro vs w' hC hk
    (try simp [Know.add, depOn, Region.binds] at hk)
    go_simp
    exact ⟨Below.refl _ _, rfl⟩
  refine wpM_det rfl ?_
  apply Exists.intro
  refine ⟨?_, ?_⟩
  · intro vs w' hC hk
    (try simp [Know.add, depOn, Region.binds] at hk)
    go_simp
    exact ⟨Below.refl _ _, rfl⟩
  refine wpM_det rfl ?_
  apply Exists.intro
  refine ⟨?_, ?_⟩
  · intro vs w' hC hk
    (try simp [Know.add, depOn, Region.binds] at hk)
    go_simp
    refine (HD.out _ (S5.out.below hC).pl).mono ?_
    rintro e w'' ⟨rfl, hb⟩
    first | exact ⟨rfl, hb⟩ | exact ⟨_, rfl, hb, rfl⟩
  refine wpM_det rfl ?_
  apply Exists.intro
  refine ⟨?_, ?_⟩
  · intro vs w' hC hk
    (try simp [Know.add, depOn, Region.binds] at hk)
    go_simp
    exact ⟨Below.refl _ _, rfl⟩
  refine wpM_step rfl (NewRowP V.heap.size 70 #[.string ⟨#[]⟩, .string ⟨#[]⟩, .int .u64 0]) (stab_newrow _ _ _) ?_ ?_
  · intro vs w' hC hk
    (try simp [Know.add, depOn, Region.binds] at hk)
    go_simp
    exact ⟨(Below.refl _ _).alloc (Nat.le_refl _) _, _, hC.size, rfl, heap_alloc_new _ _⟩
  refine wpM_nil ?_
  intro vs V6 hC hk
  have h8 : NewRowP V.heap.size 70 #[.string ⟨#[]⟩, .string ⟨#[]⟩, .int .u64 0] (vs 8) V6 := hk.2 (by kernel_rfl)
  have h7 : vs 7 = .agg #[.string si, .string v, .int .u64 (d : Int)] := hk.1.2 (by kernel_rfl)
  clear hk t0 t1 t2 t3
  obtain ⟨A, hAV, h8, hA8⟩ := h8
  have hA2 : w.heap.size + 2 ≤ A := by have := lt_of_rowR S5.out.rp; omega
  have s6 := (S5.out.below hC).setRow (A := A) hA2 #[.string si, .string v, .int .u64 (d : Int)]
  have n6 := setRow_heap V6 A _ #[.string si, .string v, .int .u64 (d : Int)] _ _ hA8
  obtain ⟨W6, hW6⟩ : ∃ W, W = V6.setRow A #[.string si, .string v, .int .u64 (d : Int)] := ⟨_, rfl⟩
  rw [← hW6] at s6 n6
  have S6 := Lib.hid s6
  have N6 := Lib.hid n6
  have HW6 := Lib.hid hW6
  have HA8 := Lib.hid hA8
  have ONE0 : Hid ((#[.string si, .string v, .int .u64 (d : Int)] : Array Value).all (·.oneCell') = true) := Lib.hid (by simp [Value.oneCell'])
  clear hC s6 n6 hW6 hAV hA8
  go_simp
  refine wpAny_one 9 ?_ rfl ?_
  · kernel_rfl
  intro K hK
  rw [if_pos (by rfl)]
  refine wp_store_row 70 _ _ rfl A #[.string si, .string v, .int .u64 (d : Int)] rfl rfl _ _ HA8.out (by kernel_rfl) rfl ONE0.out ?_
  refine hK _ _ ?_
  clear hK K
  refine wpAny_done (by kernel_rfl) ?_ _
  rw [← HW6.out]
  clear HW6 HA8 ONE0
  go_frame
  (try simp only [Nat.zero_add, Nat.reduceAdd, h7, h8])
  clear h7 h8
  go_wp2_with fail
  obtain ⟨d0, d1, d2⟩ := ses_row _ _ _ _ _ N6.out
  obtain ⟨c0, c1, c2, c3⟩ := S6.out.cells
  obtain ⟨p0, p1, p2⟩ := S6.out.store
  have hms : MapIs W6.drew b n f := S6.out.pl.map.kept rfl
  obtain ⟨w7, hrun, hm7, hg7, hz7⟩ := hms.store (by omega) si hrid ⟨si, v, d⟩
  simp only [Ses.row] at hrun
  rw [← HF'.out] at hm7
  have hg7' : W6.grownBy w7 (some b) := ⟨hg7.os, hg7.tape, hg7.output, hg7.size, hg7.block⟩
  have s7 := S6.out.grown hg7' hm7 HI.out
  have n7 := (hg7'.block A (lt_of_rowR N6.out) (fun e => by injection e with e; have := S6.out.hb; omega)).trans N6.out
  have S7 := Lib.hid s7
  have N7 := Lib.hid n7
  clear hms hm7 hg7 hz7 hg7' s7 n7
  go_region
  clear d0 d1 d2 c0 c1 c2 c3 p0 p1 p2
  obtain ⟨d0, d1, d2⟩ := ses_row _ _ _ _ _ N7.out
  have ONE : Hid ((#[.int .i64 0, .string ⟨#[]⟩, .int .u64 (d : Int)] : Array Value).all (·.oneCell') = true) := Lib.hid (by simp [Value.oneCell'])
  have hrow := setRow_heap w7 (w.heap.size + 1) _ #[.int .i64 0, .string ⟨#[]⟩, .int .u64 (d : Int)] _ _ S7.out.rp
  have HROW := Lib.hid hrow
  clear hrow
  go_wp2_with (refine wpList_store_row rfl 41 _ _ rfl (w.heap.size + 1) #[.int .i64 0, .string ⟨#[]⟩, .int .u64 (d : Int)] rfl rfl _ _ S7.out.rp (by kernel_rfl) rfl ONE.out ?_)
  refine bodyPost_ret (v := .agg #[.int .i64 0, .string ⟨#[]⟩, .int .u64 (d : Int)]) ?_ rfl ⟨rfl, S7.out.fin _⟩
  exact results_cell_row (p := 4) (ty := 41) rfl _ _ (w.heap.size + 1) 41 _ (0, 0) _ rfl HROW.out Try.underlying41 rfl (by kernel_rfl)
end Go.Proofs.Ytmbidannodelfaa.G
