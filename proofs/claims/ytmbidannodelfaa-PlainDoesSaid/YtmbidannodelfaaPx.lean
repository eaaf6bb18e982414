/- What is asked of a store: create. -/
import Derived.Test.YtmbidannodelfaaPw
namespace Go.Proofs.Ytmbidannodelfaa.G
open Go.RowKit Go.Maps Go.Proofs.Ytmbidannodelfaa.WordPlain Go.Proofs.Ytmbidannodelfaa.Loose
set_option linter.unusedVariables false
set_option linter.unusedSimpArgs false

theorem MapIs.keys {w : World} {b n : Nat} {f : ByteArray → Option Ses} (h : MapIs w b n f) : ∃ ks, KeysL f ks ∧ ks.length ≤ n := by
  obtain ⟨D, hown, hf⟩ := h
  obtain ⟨hnd, hmem⟩ := str_nodup hown
  have hsz := hown.size_le
  refine ⟨((strKeys D).mergeSort leB).map (fun x => ⟨x.toArray⟩), ⟨?_, ?_⟩, ?_⟩
  · refine List.pairwise_map.2 ((sort_strict _ hnd).imp fun {a b} h => ?_)
    simpa [bl8] using h
  · intro k
    rw [← (hf k).1, ← hmem (bl8 k), ← (List.mergeSort_perm (strKeys D) leB).mem_iff, List.mem_map]
    constructor
    · rintro ⟨x, hx, rfl⟩
      simpa [bl8] using hx
    · intro hx
      exact ⟨bl8 k, hx, by simp [bl8]⟩
  · rw [List.length_map, List.length_mergeSort]
    obtain ⟨es, rfl, _⟩ := hown.entries str_key
    have : (strKeys (DataW.map es)).length = es.length := by show (es.map fun p => strOf p.1).length = _; rw [List.length_map]
    rw [this]
    exact hsz
theorem PL.ses {w : World} {p b n now : Nat} {q : Int} {f : ByteArray → Option Ses} (h : PL w p b n now q f) : ∃ L, IsSes now f L ∧ L.length ≤ n := by
  obtain ⟨ks, hk, hl⟩ := h.map.keys
  refine ⟨_, livL_is hk (fun k s hs => (h.ids k s hs).1), Nat.le_trans (List.length_filterMap_le _ _) hl⟩
theorem sess_is (w : World) (p b n now : Nat) (q : Int) (f : ByteArray → Option Ses) (L : List Ses) (h : PL w p b n now q f) (hn : n ≤ 1000000) (hL : IsSes now f L) :
    Calls Try.prog 20 #[.pointer (some ⟨p, 0, none⟩)] w fun e w' => (∃ u, e = .returned u ∧ LR 3 encS w' u L) ∧ Below w.heap.size w w' :=
  (sess_val w p b n now q f h hn).mono fun e w' ⟨⟨u, M, h1, h2, h3, _⟩, h4⟩ => ⟨⟨u, h1, by rw [hL.uniq h2 (fun s => Iff.rfl)]; exact h3⟩, h4⟩
theorem sess_empty (w : World) (p b n now : Nat) (q : Int) (f : ByteArray → Option Ses) (h : PL w p b n now q f) (hn : n ≤ 1000000) (hL : IsSes now f []) :
    Calls Try.prog 20 #[.pointer (some ⟨p, 0, none⟩)] w fun e w' => e = .returned (.slice none 0 0) ∧ Below w.heap.size w w' :=
  (sess_val w p b n now q f h hn).mono fun e w' ⟨⟨u, M, h1, h2, h3, h5⟩, h4⟩ => ⟨by rw [h1, h5 (hL.uniq h2 (fun s => Iff.rfl)).symm], h4⟩
theorem St.setRow {w W : World} {p b n now A : Nat} {q : Int} {f : ByteArray → Option Ses} {r : Rq} {y : Rp} (h : St w p b n now q f r y W) (hA : w.heap.size + 2 ≤ A) (cs : Array Value) : St w p b n now q f r y (W.setRow A cs) := by
  have h1 := h.hp
  have h2 := h.hb
  exact ⟨(setRow_other _ _ _ _ (by omega)).trans h.rq, (setRow_other _ _ _ _ (by omega)).trans h.rp, h.pl.keep (setRow_other _ _ _ _ (by omega)) (setRow_other _ _ _ _ (by omega)), ⟨h.mp.os, h.mp.tape, h.mp.output, by rw [setRow_size]; exact h.mp.size, fun i hi hp hb => (setRow_other _ _ _ _ (by omega)).trans (h.mp.block i hi hp hb)⟩, h.hp, h.hb⟩
def NewRowP (base : Nat) (ty : TypeId) (cs : Array Value) (u : Value) (W : World) : Prop := ∃ B, base ≤ B ∧ u = .pointer (some ⟨B, 0, none⟩) ∧ W.heap[B]? = some (.cells cs ty (0, 0))
theorem stab_newrow (base : Nat) (ty : TypeId) (cs : Array Value) : Stab (NewRowP base ty cs) := by
  rintro v w w' ⟨b, h0, h1, h2⟩ hb
  exact ⟨b, h0, h1, (hb.block b (lt_of_rowR h2)).trans h2⟩

set_option maxRecDepth 100000 in
set_option maxHeartbeats 4000000 in
theorem create_twice (w : World) (p b n now : Nat) (q : Int) (f : ByteArray → Option Ses) (r : Rq) (h : PL w p b n now q f) (hr : r.Kind) (hz : liv now f r.id = true) :
    Calls Try.prog 30 #[.pointer (some ⟨p, 0, none⟩), .agg r.row] w fun e w' => e = .returned (.agg (Rp.bad 4).row) ∧ PL w' p b n now q f ∧ Mp p b w w' := by
  have hst := St.start (r := r) h
  have hrid := hr.id
  have hfind := fun W (hW : PL W p b n now q f) => find_val W p b n now q f r.id hW hrid
  obtain ⟨s, hs⟩ : ∃ s, s = (f r.id).getD Ses.zero := ⟨_, rfl⟩
  simp only [← hs, hz] at hfind
  obtain ⟨k, si, v, x⟩ := r
  obtain ⟨i, sv, sd⟩ := s
  simp only [Rq.row, Ses.row, Rp.row, Rp.bad] at hfind hst hrid ⊢
  have ST := Lib.hid hst
  have HF := Lib.hid hfind
  clear h hst hfind hs hz
  go_enter Try.func30, Try.ntmps30
  go_wp2_with fail
  have ff := HF.out _ ST.out.pl
  refine ff.mono ?_; rintro e w3 ⟨rfl, b3⟩
  clear ff
  have s3 := ST.out.below b3
  have s4 := s3.below ((Below.refl w3.heap.size w3).alloc (Nat.le_refl _) (.cells #[.string i, .string sv, .int .u64 (sd : Int)] 70))
  have n4 := heap_alloc_new w3 (.cells #[.string i, .string sv, .int .u64 (sd : Int)] 70)
  have S4 := Lib.hid s4
  have N4 := Lib.hid n4
  have hA : w.heap.size + 2 ≤ w3.heap.size := by have := lt_of_rowR s3.rp; omega
  clear b3 s3 s4 n4
  have ONE : Hid ((#[.int .i64 4, .string ⟨#[]⟩, .int .u64 0] : Array Value).all (·.oneCell') = true) := Lib.hid (by simp [Value.oneCell'])
  have hrow := setRow_heap (w3.alloc (.cells #[.string i, .string sv, .int .u64 (sd : Int)] 70)) (w.heap.size + 1) _ #[.int .i64 4, .string ⟨#[]⟩, .int .u64 0] _ _ S4.out.rp
  have HROW := Lib.hid hrow
  clear hrow
  go_wp2_with (refine wpList_store_row rfl 41 _ _ rfl (w.heap.size + 1) #[.int .i64 4, .string ⟨#[]⟩, .int .u64 0] rfl rfl _ _ S4.out.rp (by kernel_rfl) rfl ONE.out ?_)
  refine bodyPost_ret (v := .agg #[.int .i64 4, .string ⟨#[]⟩, .int .u64 0]) ?_ rfl ⟨rfl, S4.out.fin _⟩
  exact results_cell_row (p := 4) (ty := 41) rfl _ _ (w.heap.size + 1) 41 _ (0, 0) _ rfl HROW.out Try.underlying41 rfl (by kernel_rfl)

set_option maxRecDepth 100000 in
set_option maxHeartbeats 4000000 in
theorem create_quota (w : World) (p b n now : Nat) (q : Int) (f : ByteArray → Option Ses) (r : Rq) (L : List Ses) (h : PL w p b n now q f) (hr : r.Kind) (hn : n ≤ 1000000) (hz : liv now f r.id = false) (hL : IsSes now f L) (hq : q ≤ (L.length : Int)) :
    Calls Try.prog 30 #[.pointer (some ⟨p, 0, none⟩), .agg r.row] w fun e w' => e = .returned (.agg (Rp.bad 7).row) ∧ PL w' p b n now q f ∧ Mp p b w w' := by
  have hsess := fun W (hW : PL W p b n now q f) => sess_is W p b n now q f L hW hn hL
  have HS := Lib.hid hsess
  have HQ := Lib.hid hq
  clear hsess hL hq
  have hst := St.start (r := r) h
  have hrid := hr.id
  have hfind := fun W (hW : PL W p b n now q f) => find_val W p b n now q f r.id hW hrid
  obtain ⟨s, hs⟩ : ∃ s, s = (f r.id).getD Ses.zero := ⟨_, rfl⟩
  simp only [← hs, hz] at hfind
  obtain ⟨k, si, v, x⟩ := r
  obtain ⟨i, sv, sd⟩ := s
  simp only [Rq.row, Ses.row, Rp.row, Rp.bad] at hfind hst hrid ⊢
  have ST := Lib.hid hst
  have HF := Lib.hid hfind
  clear h hst hfind hs hz
  go_enter Try.func30, Try.ntmps30
  go_wp2_with fail
  have ff := HF.out _ ST.out.pl
  refine ff.mono ?_; rintro e w3 ⟨rfl, b3⟩
  clear ff
  have s3 := ST.out.below b3
  have s4 := s3.below ((Below.refl w3.heap.size w3).alloc (Nat.le_refl _) (.cells #[.string i, .string sv, .int .u64 (sd : Int)] 70))
  have n4 := heap_alloc_new w3 (.cells #[.string i, .string sv, .int .u64 (sd : Int)] 70)
  have S4 := Lib.hid s4
  have N4 := Lib.hid n4
  have hA : w.heap.size + 2 ≤ w3.heap.size := by have := lt_of_rowR s3.rp; omega
  obtain ⟨c0, c1, c2, c3⟩ := S4.out.cells
  clear b3 s3 s4 n4
  go_wp2_with fail
  clear c0 c1 c2 c3
  obtain ⟨W4, hW4⟩ : ∃ W, W = w3.alloc (.cells #[.string i, .string sv, .int .u64 (sd : Int)] 70) := ⟨_, rfl⟩
  rw [← hW4] at S4
  rw [← hW4]
  clear hW4 N4
  have q4 : ∀ V, Below W4.heap.size W4 V → V.cell? ⟨p, 1, none⟩ = some (.int .i64 q) := fun V hV => (S4.out.below hV).store.2.1
  refine wp_region_loose (by kernel_rfl) (by kernel_rfl) ?_
  refine wpL_det ?_
  apply Exists.intro
  refine ⟨?_, ?_⟩
  · intro vs w' hC hk
    (try simp [Know.add, depOn, Region.binds] at hk)
    go_simp
    exact ⟨Below.refl _ _, rfl⟩
  refine wpL_step (fun u _ => ∃ oa cap, u = .slice oa L.length cap) (fun v w w' h _ => h) ?_ ?_
  · intro vs w' hC hk
    (try simp [Know.add, depOn, Region.binds] at hk)
    go_simp
    have hs := HS.out w' (S4.out.below hC).pl
    refine hs.mono ?_
    rintro e w'' ⟨⟨u, rfl, hl⟩, hb⟩
    exact ⟨u, rfl, hb, hl.form⟩
  refine wpL_det ?_
  refine ⟨.int .i64 (L.length : Int), ?_, ?_⟩
  · intro vs w' hC hk
    have h1 : ∃ oa cap, vs 1 = .slice oa L.length cap := hk.2 (by kernel_rfl)
    clear hk
    obtain ⟨oa, cap, h1⟩ := h1
    go_simp
    exact Below.refl _ _
  refine wpL_det ?_
  apply Exists.intro
  refine ⟨?_, ?_⟩
  · intro vs w' hC hk
    (try simp [Know.add, depOn, Region.binds] at hk)
    go_simp
    exact ⟨Below.refl _ _, rfl⟩
  refine wpL_det ?_
  apply Exists.intro
  refine ⟨?_, ?_⟩
  · intro vs w' hC hk
    (try simp [Know.add, depOn, Region.binds] at hk)
    go_simp
    exact ⟨Below.refl _ _, rfl⟩
  refine wpL_det ?_
  apply Exists.intro
  refine ⟨?_, ?_⟩
  · intro vs w' hC hk
    (try simp [Know.add, depOn, Region.binds] at hk)
    go_simp
    exact ⟨Below.refl _ _, rfl⟩
  refine wpL_det ?_
  apply Exists.intro
  refine ⟨?_, ?_⟩
  · intro vs w' hC hk
    (try simp [Know.add, depOn, Region.binds] at hk)
    go_simp
    exact ⟨Below.refl _ _, rfl⟩
  refine wpL_det ?_
  apply Exists.intro
  refine ⟨?_, ?_⟩
  · intro vs w' hC hk
    (try simp [Know.add, depOn, Region.binds] at hk)
    go_simp
    exact ⟨Below.refl _ _, rfl⟩
  refine wpL_nil ?_
  intro vs V hC hk
  have h7 : vs 7 = .bool (decide (q ≤ (L.length : Int))) := hk.2 (by kernel_rfl)
  clear hk q4
  go_frame
  have S5 := Lib.hid (S4.out.below hC)
  rw [decide_eq_true HQ.out] at h7
  simp only [Nat.zero_add, Nat.reduceAdd, h7]
  clear h7
  clear hC
  have ONE : Hid ((#[.int .i64 7, .string ⟨#[]⟩, .int .u64 0] : Array Value).all (·.oneCell') = true) := Lib.hid (by simp [Value.oneCell'])
  have hrow := setRow_heap V (w.heap.size + 1) _ #[.int .i64 7, .string ⟨#[]⟩, .int .u64 0] _ _ S5.out.rp
  have HROW := Lib.hid hrow
  clear hrow
  go_wp2_with (refine wpList_store_row rfl 41 _ _ rfl (w.heap.size + 1) #[.int .i64 7, .string ⟨#[]⟩, .int .u64 0] rfl rfl _ _ S5.out.rp (by kernel_rfl) rfl ONE.out ?_)
  refine bodyPost_ret (v := .agg #[.int .i64 7, .string ⟨#[]⟩, .int .u64 0]) ?_ rfl ⟨rfl, S5.out.fin _⟩
  exact results_cell_row (p := 4) (ty := 41) rfl _ _ (w.heap.size + 1) 41 _ (0, 0) _ rfl HROW.out Try.underlying41 rfl (by kernel_rfl)

end Go.Proofs.Ytmbidannodelfaa.G
