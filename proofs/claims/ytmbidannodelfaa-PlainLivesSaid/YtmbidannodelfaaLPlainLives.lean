/- PlainLives: whatever the values, the ticks and the wait, the law answers true. No condition. -/
import Derived.Test.YtmbidannodelfaaPh
import Derived.Test.YtmbidannodelfaaFw
import Derived.Test.YtmbidannodelfaaGFast
import Derived.BigQuiet
namespace Go.Proofs.Ytmbidannodelfaa.L
open Go.RowKit Go.Maps Go.Proofs.Ytmbidannodelfaa.G Go.Proofs.Ytmbidannodelfaa.WordPlain Go.Proofs.Ytmbidannodelfaa.Loose
set_option linter.unusedVariables false
set_option linter.unusedSimpArgs false

theorem run_min2L {P : Program} (ats : Array TypeId) (ty : TypeId) (a b : Int) (W : World) : (Builtin.min_ ats ty #[.int .i64 a, .int .i64 b]).run P W = .ok (.int .i64 (min a b)) W := by
  have h : ∀ x y : Int, (if y < x then y else x) = min x y := by intro x y; split <;> omega
  simp [Builtin.min_, Builtin.min2, List.foldlM_cons, List.foldlM_nil, h]
theorem wrp0 (c : Nat) (h : c < 4294967296) : IntKind.u64.wrap (c : Int) = (c : Int) := by
  show (c : Int) % 18446744073709551616 = _
  omega
theorem wrp1 (c t : Nat) (h : c < 4294967296) (ht : t = c + 1) : IntKind.u64.wrap ((c : Int) + 1) = (t : Int) := by
  show ((c : Int) + 1) % 18446744073709551616 = _
  omega
theorem nb_tick (t : Nat) (h1 : 1 ≤ t) (h2 : t ≤ 1000000) : F.tickV (F.nb t) = t ∧ F.tickE (F.nb t) = 0 := by
  obtain ⟨a, b, c⟩ := F.nb_num t (by omega)
  have h := F.tick_fl (F.nb t) a (by rw [c]; omega)
  rw [c, if_neg (by omega)] at h
  exact h
theorem lv1 (v : ByteArray) (t : Nat) (hv : valB v = true) (h1 : 1 ≤ t) (h2 : t ≤ 1000000) : validE ⟨0, ⟨#[97]⟩, v, F.nb t⟩ = 0 := by
  unfold validE
  rw [if_neg (show ¬ ((0 : Int) < 0 ∨ (5 : Int) ≤ 0 ∨ idB ⟨#[97]⟩ = false) from by decide +kernel), if_neg (show ¬ (_ ∧ valB v = false) from by rw [hv]; simp), if_pos (Or.inl rfl)]
  show ((F.tickE (F.nb t) : Nat) : Int) = 0
  rw [(nb_tick t h1 h2).2]; rfl
theorem lv3 (v : ByteArray) (hv : valB v = true) : validE ⟨3, ⟨#[97]⟩, v, 0⟩ = 0 := by
  unfold validE
  rw [if_neg (show ¬ ((3 : Int) < 0 ∨ (5 : Int) ≤ 3 ∨ idB ⟨#[97]⟩ = false) from by decide +kernel), if_neg (show ¬ (_ ∧ valB v = false) from by rw [hv]; simp), if_neg (show ¬ ((3 : Int) = 0 ∨ (3 : Int) = 2) from by decide)]
def lf (v : ByteArray) (t : Nat) : ByteArray → Option Ses := upd g0 ⟨#[97]⟩ (some ⟨⟨#[97]⟩, v, t⟩)
theorem lf_at (v : ByteArray) (t : Nat) : lf v t ⟨#[97]⟩ = some ⟨⟨#[97]⟩, v, t⟩ := by unfold lf upd; exact if_pos rfl
theorem lliv (v : ByteArray) (t u : Nat) : liv u (lf v t) ⟨#[97]⟩ = decide (u < t) := by unfold liv; rw [lf_at]
theorem lliv1 (v : ByteArray) (t u : Nat) (h : u < t) : ¬ liv u (lf v t) ⟨#[97]⟩ = false := by rw [lliv, decide_eq_true h]; decide
theorem addV_0 (t : Nat) (h : t ≤ 1000000) : addV 0 t = t := by unfold addV; rw [if_neg (by omega)]; omega
theorem l1 (v : ByteArray) (t : Nat) (hv : valB v = true) (h1 : 1 ≤ t) (h2 : t ≤ 1000000) : doR 0 5 g0 0 ⟨0, ⟨#[97]⟩, v, F.nb t⟩ = ⟨0, ⟨#[]⟩, t⟩ ∧ doF 0 5 g0 0 ⟨0, ⟨#[97]⟩, v, F.nb t⟩ = lf v t := by
  have hd : ddl 0 ⟨0, ⟨#[97]⟩, v, F.nb t⟩ = t := by show addV 0 (F.tickV (F.nb t)) = t; rw [(nb_tick t h1 h2).1, addV_0 t h2]
  have hl : ¬ (liv 0 g0 ⟨#[97]⟩ = true) := by decide
  have hv := lv1 v t hv h1 h2
  refine ⟨?_, ?_⟩
  · unfold doR
    rw [if_neg (by rw [hv]; simp), if_pos rfl, if_neg hl, if_neg (by decide), hd]
    try rfl
  · unfold doF
    rw [if_neg (by rw [hv]; simp), if_pos rfl, if_neg hl, if_neg (by decide), hd]
    try rfl
theorem l2 (v : ByteArray) (t u c : Nat) (h : u < t) : doR u 5 (lf v t) c ⟨1, ⟨#[97]⟩, ⟨#[]⟩, 0⟩ = ⟨0, v, t⟩ ∧ doF u 5 (lf v t) c ⟨1, ⟨#[97]⟩, ⟨#[]⟩, 0⟩ = lf v t := by
  have hv : validE ⟨1, ⟨#[97]⟩, ⟨#[]⟩, 0⟩ = 0 := by decide +kernel
  have hl := lliv1 v t u h
  refine ⟨?_, ?_⟩
  · unfold doR
    rw [if_neg (by rw [hv]; simp), if_neg (by decide), if_neg hl, if_pos rfl, lf_at]
    try rfl
  · unfold doF
    rw [if_neg (by rw [hv]; simp), if_neg (by decide), if_neg hl, if_pos rfl]
    try rfl
theorem l2n (v : ByteArray) (t u c : Nat) (h : ¬ u < t) : doR u 5 (lf v t) c ⟨1, ⟨#[97]⟩, ⟨#[]⟩, 0⟩ = ⟨3, ⟨#[]⟩, 0⟩ ∧ doF u 5 (lf v t) c ⟨1, ⟨#[97]⟩, ⟨#[]⟩, 0⟩ = lf v t := by
  have hv : validE ⟨1, ⟨#[97]⟩, ⟨#[]⟩, 0⟩ = 0 := by decide +kernel
  have hl : liv u (lf v t) ⟨#[97]⟩ = false := by rw [lliv, decide_eq_false h]
  refine ⟨?_, ?_⟩
  · unfold doR
    rw [if_neg (by rw [hv]; simp), if_neg (by decide), if_pos hl]
    try rfl
  · unfold doF
    rw [if_neg (by rw [hv]; simp), if_neg (by decide), if_pos hl]
    try rfl
theorem l3 (v o : ByteArray) (t c : Nat) (ho : valB o = true) (h1 : 0 < t) : doR 0 5 (lf v t) c ⟨3, ⟨#[97]⟩, o, 0⟩ = ⟨0, ⟨#[]⟩, 0⟩ ∧ doF 0 5 (lf v t) c ⟨3, ⟨#[97]⟩, o, 0⟩ = lf o t := by
  have hv := lv3 o ho
  have k0 : ¬ (3 : Int) = 0 := by decide
  have k1 : ¬ (3 : Int) = 1 := by decide
  have k2 : ¬ (3 : Int) = 2 := by decide
  have hl := lliv1 v t 0 h1
  refine ⟨?_, ?_⟩
  · unfold doR
    rw [if_neg (by rw [hv]; simp), if_neg k0, if_neg hl, if_neg k1, if_neg k2]
    try rfl
  · unfold doF
    rw [if_neg (by rw [hv]; simp), if_neg k0, if_neg hl, if_neg k1, if_neg k2, if_pos rfl, lf_at]
    exact upd_upd g0 _ _ _
theorem l4 (v : ByteArray) (t u c : Nat) (h : u < t) : doR u 5 (lf v t) c ⟨4, ⟨#[97]⟩, ⟨#[]⟩, 0⟩ = ⟨0, ⟨#[]⟩, 0⟩ ∧ doF u 5 (lf v t) c ⟨4, ⟨#[97]⟩, ⟨#[]⟩, 0⟩ = upd (lf v t) ⟨#[97]⟩ none := by
  have hv : validE ⟨4, ⟨#[97]⟩, ⟨#[]⟩, 0⟩ = 0 := by decide +kernel
  have hl := lliv1 v t u h
  refine ⟨?_, ?_⟩
  · unfold doR
    rw [if_neg (by rw [hv]; simp), if_neg (by decide), if_neg hl, if_neg (by decide), if_neg (by decide)]
    try rfl
  · unfold doF
    rw [if_neg (by rw [hv]; simp), if_neg (by decide), if_neg hl, if_neg (by decide), if_neg (by decide), if_neg (by decide)]
    try rfl
theorem l5 (f : ByteArray → Option Ses) (u c : Nat) : doR u 5 (upd f ⟨#[97]⟩ none) c ⟨1, ⟨#[97]⟩, ⟨#[]⟩, 0⟩ = ⟨3, ⟨#[]⟩, 0⟩ ∧ doF u 5 (upd f ⟨#[97]⟩ none) c ⟨1, ⟨#[97]⟩, ⟨#[]⟩, 0⟩ = upd f ⟨#[97]⟩ none := by
  have hv : validE ⟨1, ⟨#[97]⟩, ⟨#[]⟩, 0⟩ = 0 := by decide +kernel
  have hl : liv u (upd f ⟨#[97]⟩ none) ⟨#[97]⟩ = false := by unfold liv upd; rw [if_pos rfl]
  refine ⟨?_, ?_⟩
  · unfold doR
    rw [if_neg (by rw [hv]; simp), if_neg (by decide), if_pos hl]
    try rfl
  · unfold doF
    rw [if_neg (by rw [hv]; simp), if_neg (by decide), if_pos hl]
    try rfl
theorem Do_at (w : World) (p b n now : Nat) (q : Int) (f g : ByteArray → Option Ses) (r : Rq) (y : Rp) (h : PL w p b n now q f) (hr : r.Kind) (hn : n < 1000000) (hy : ∀ c, doR now q f c r = y ∧ doF now q f c r = g) :
    Calls Try.prog 14 #[.pointer (some ⟨p, 0, none⟩), .agg r.row] w fun e w' => e = .returned (.agg y.row) ∧ PL w' p b (n + 1) now q g ∧ Mp p b w w' := by
  obtain ⟨L, hL, _⟩ := h.ses
  exact Do_is w p b n now q f g r y L h hr hn hL (hy _).1 (hy _).2
theorem Tick_at (w : World) (p b n now u : Nat) (q : Int) (f : ByteArray → Option Ses) (t : Nat) (h : PL w p b n now q f) (hn : n ≤ 1000000) (ht : t < 18446744073709551616) (hu : u = addV now t) :
    Calls Try.prog 11 #[.pointer (some ⟨p, 0, none⟩), .int .u64 (t : Nat)] w fun e w' => (∃ d, e = .returned (.int .i64 d)) ∧ PL w' p b n u q f ∧ Mp p b w w' := by
  obtain ⟨ks, hk, hkl⟩ := h.map.keys
  have hid := fun k s (hs : f k = some s) => (h.ids k s hs).1
  have hge : now ≤ u := by rw [hu]; exact addV_ge now t h.nlt
  exact (Tick_val w p b n now q f t u _ _ h hn ht hu (livL_is hk hid) (livL_is hk hid) (livL_le _ _ _ _ hge) (Nat.le_trans (List.length_filterMap_le _ _) (by omega))).mono fun e w' ⟨h1, h2, h3⟩ => ⟨⟨_, h1⟩, h2, h3⟩

set_option maxRecDepth 100000 in
set_option maxHeartbeats 8000000 in
theorem lives_main (va ot : ByteArray) (c d cm t u : Nat) (w : World) (hva : va.size ≤ 140737488351232) (hot : ot.size ≤ 140737488351232) (hcm : cm = c % 1000000) (htc : t = cm + 1) (hu : u = d % 1000000) (hc : c < 4294967296) (hd : d < 4294967296) :
    Calls Try.prog 5 #[.string va, .string ot, .agg #[.int .u32 (c : Nat), .int .u32 (d : Nat)]] w fun e w' => e = .returned (.bool true) ∧ Below w.heap.size w w' := by
  obtain ⟨ki, hki⟩ : ∃ k, k = min va.size 64 := ⟨_, rfl⟩
  obtain ⟨kv, hkv⟩ : ∃ k, k = min ot.size 64 := ⟨_, rfl⟩
  have s1 : ∀ W : World, (Instr.slice 9 (.string va) none (some (.int .i64 (ki : Int))) none).run Try.prog W = .ok (.string (va.extract 0 ki)) W := by
    intro W
    rw [run_slice_string_h W _ _ Try.underlying9 .i64 (ki : Int) (by omega) (by omega), Int.toNat_natCast]
  have s2 : ∀ W : World, (Instr.slice 9 (.string ot) none (some (.int .i64 (kv : Int))) none).run Try.prog W = .ok (.string (ot.extract 0 kv)) W := by
    intro W
    rw [run_slice_string_h W _ _ Try.underlying9 .i64 (kv : Int) (by omega) (by omega), Int.toNat_natCast]
  have m1 : ∀ W, (Builtin.min_ #[3, 3] 3 #[.int .i64 (va.size : Int), .int .i64 64]).run Try.prog W = .ok (.int .i64 (ki : Int)) W := by
    intro W
    rw [run_min2L, show min (va.size : Int) 64 = (ki : Int) from by omega]
  have m2 : ∀ W, (Builtin.min_ #[3, 3] 3 #[.int .i64 (ot.size : Int), .int .i64 64]).run Try.prog W = .ok (.int .i64 (kv : Int)) W := by
    intro W
    rw [run_min2L, show min (ot.size : Int) 64 = (kv : Int) from by omega]
  have hi' : ¬ (va.size : Int) < (ki : Int) := by omega
  have hv' : ¬ (ot.size : Int) < (kv : Int) := by omega
  obtain ⟨v, hv⟩ : ∃ x, x = (va.extract 0 ki) := ⟨_, rfl⟩
  obtain ⟨o, ho⟩ : ∃ x, x = (ot.extract 0 kv) := ⟨_, rfl⟩
  rw [← hv] at s1
  rw [← ho] at s2
  have vb : valB v = true := by unfold valB; rw [hv, ByteArray.size_extract]; exact decide_eq_true (by omega)
  have ob : valB o = true := by unfold valB; rw [ho, ByteArray.size_extract]; exact decide_eq_true (by omega)
  have vs : v.size ≤ 140737488351232 := by rw [hv, ByteArray.size_extract]; omega
  have os : o.size ≤ 140737488351232 := by rw [ho, ByteArray.size_extract]; omega
  have VB := Lib.hid vb
  have OB := Lib.hid ob
  have VS := Lib.hid vs
  have OS := Lib.hid os
  have t1 : 1 ≤ t := by omega
  have t2 : t ≤ 1000000 := by omega
  have u2 : u < 1000000 := by omega
  have T1 := Lib.hid t1
  have T2 := Lib.hid t2
  have U2 := Lib.hid u2
  have NT := Lib.hid (show F.nb t < 18446744073709551616 from by have := (F.nb_num t (by omega)).1; omega)
  have em1 : (c : Int).tmod 1000000 = (cm : Int) := by rw [hcm]; exact (Int.ofNat_tmod c 1000000).symm
  have em2 : (d : Int).tmod 1000000 = (u : Int) := by rw [hu]; exact (Int.ofNat_tmod d 1000000).symm
  have wr1 : IntKind.u64.wrap ((cm : Int) + 1) = (t : Int) := wrp1 cm t (by omega) htc
  have wr2 : IntKind.u64.wrap (c : Int) = (c : Int) := wrp0 c (by omega)
  have wr3 : IntKind.u64.wrap (d : Int) = (d : Int) := wrp0 d (by omega)
  have cf := F.nb_int t
  clear hki hkv hv ho vb ob vs os t1 t2 u2 hcm htc hu hc hd hva hot
  obtain ⟨W0, hW0⟩ : ∃ W, W = w.alloc (.cells #[.int .u32 (c : Int), .int .u32 (d : Int)] 59) := ⟨_, rfl⟩
  have n0 := heap_alloc_new w (.cells #[.int .u32 (c : Int), .int .u32 (d : Int)] 59)
  have b0 := (Below.refl w.heap.size w).alloc (Nat.le_refl _) (.cells #[.int .u32 (c : Int), .int .u32 (d : Int)] 59)
  rw [← hW0] at n0 b0
  have N0 := Lib.hid n0
  have B0 := Lib.hid b0
  have HW0 := Lib.hid hW0
  have HNEW := Lib.hid (New_val W0 0 5 (by omega))
  clear n0 b0 hW0
  go_enter Try.func5, Try.ntmps5
  go_wp2_with fail
  rw [← HW0.out]
  clear HW0
  refine (HNEW.out).mono ?_; rintro e w1 ⟨rfl, pl, bl, hz⟩
  obtain ⟨p, hp⟩ : ∃ p, p = W0.heap.size + 1 := ⟨_, rfl⟩
  obtain ⟨b, hb⟩ : ∃ b, b = W0.heap.size := ⟨_, rfl⟩
  rw [← hp, ← hb] at pl
  rw [← hp]
  have n1 := (bl.block _ (lt_of_rowR N0.out)).trans N0.out
  have e0 := (cell_of_row _ _ 0 _ _ _ n1).trans (show _ = some (.int .u32 (c : Int)) from rfl)
  have e1 := (cell_of_row _ _ 1 _ _ _ n1).trans (show _ = some (.int .u32 (d : Int)) from rfl)
  have HP := Lib.hid (show w.heap.size ≤ p ∧ w.heap.size ≤ b from by have := B0.out.size; omega)
  have PLN := Lib.hid pl
  have BN := Lib.hid (stepR B0.out bl)
  clear hp hb pl bl hz n1 HNEW N0 B0
  go_wp2_with fail
  have r0 := cell_regrown e0
  have r1 := cell_regrown e1
  refine Loose.wp_region_quiet_fast (by kernel_rfl) (by kernel_rfl) ?_
  (try simp only [List.append_eq, List.cons_append, List.nil_append])
  repeat (go_big_quiet_step (fail))
  refine wpQuiet_nil ?_
  intro _ hw'
  obtain ⟨⟨dq, osq⟩, hw''⟩ := hw'
  subst hw''
  clear r0 r1 e0 e1
  have bQ := below_regrown w1 dq osq
  obtain ⟨w2, hw2⟩ : ∃ V, V = Go.Sort.grow (Go.redrawn w1 dq) osq := ⟨_, rfl⟩
  rw [← hw2] at bQ
  rw [← hw2]
  have PL0 := Lib.hid (PLN.out.below bQ)
  have M0 := Lib.hid (Mp.refl p b w2)
  have BL0 := Lib.hid (stepR BN.out bQ)
  clear hw2 bQ PLN BN
  go_wp2_with fail
  have dd := Do_is w2 p b 0 0 5 g0 (lf v t) ⟨0, ⟨#[97]⟩, v, F.nb t⟩ ⟨0, ⟨#[]⟩, t⟩ [] PL0.out ⟨by show (_ : Int) ≤ 0 ∧ (0 : Int) < _; omega, (by decide : (1 : Nat) ≤ 140737488351232), VS.out, NT.out⟩ (by omega) i0 (l1 v t VB.out T1.out T2.out).1 (l1 v t VB.out T1.out T2.out).2
  simp only [Rq.row, Rp.row] at dd
  refine dd.mono ?_; rintro e v1 ⟨rfl, pl, mp⟩
  clear dd
  obtain ⟨A1, hA1⟩ : ∃ A, A = v1.heap.size := ⟨_, rfl⟩
  obtain ⟨x1, hx1⟩ : ∃ x, x = v1.alloc (.cells #[.int .i64 0, .string ⟨#[]⟩, .int .u64 (t : Int)] 41) := ⟨_, rfl⟩
  have ma : Mp p b v1 x1 := by rw [hx1]; exact Mp.al _ _
  have pl2 : PL x1 p b 1 0 5 (lf v t) := by rw [hx1]; exact pl.below ((Below.refl _ _).alloc (Nat.le_refl _) _)
  have rw2 : Rw p b x1 A1 ⟨0, ⟨#[]⟩, t⟩ := by rw [hx1, hA1]; exact Rw.new (y := ⟨0, ⟨#[]⟩, t⟩) pl.lts.1 pl.lts.2
  have mp2 := mp.trans ma
  have R1 := Lib.hid rw2
  have M1 := Lib.hid (M0.out.trans mp2)
  have PL1 := Lib.hid pl2
  have HX := Lib.hid hx1
  have HA := Lib.hid hA1
  clear pl mp ma pl2 rw2 mp2 hx1 hA1 PL0 M0
  go_wp2_with fail
  rw [← HX.out, ← HA.out]
  clear HX HA
  go_wp2_with fail
  have dd := Do_at x1 p b 1 0 5 (lf v t) (lf v t) ⟨1, ⟨#[97]⟩, ⟨#[]⟩, 0⟩ ⟨0, v, t⟩ PL1.out (rq_kind _ (by decide +kernel)) (by omega) (fun c => l2 v t 0 c (by have := T1.out; omega))
  simp only [Rq.row, Rp.row] at dd
  refine dd.mono ?_; rintro e v2 ⟨rfl, pl, mp⟩
  clear dd
  obtain ⟨A2, hA2⟩ : ∃ A, A = v2.heap.size := ⟨_, rfl⟩
  obtain ⟨x2, hx2⟩ : ∃ x, x = v2.alloc (.cells #[.int .i64 0, .string v, .int .u64 (t : Int)] 41) := ⟨_, rfl⟩
  have ma : Mp p b v2 x2 := by rw [hx2]; exact Mp.al _ _
  have pl2 : PL x2 p b 2 0 5 (lf v t) := by rw [hx2]; exact pl.below ((Below.refl _ _).alloc (Nat.le_refl _) _)
  have rw2 : Rw p b x2 A2 ⟨0, v, t⟩ := by rw [hx2, hA2]; exact Rw.new (y := ⟨0, v, t⟩) pl.lts.1 pl.lts.2
  have mp2 := mp.trans ma
  have R1_2 := Lib.hid (R1.out.mp mp2)
  clear R1
  have R1 := R1_2
  clear R1_2
  have R2 := Lib.hid rw2
  have M2 := Lib.hid (M1.out.trans mp2)
  have PL2 := Lib.hid pl2
  have HX := Lib.hid hx2
  have HA := Lib.hid hA2
  clear pl mp ma pl2 rw2 mp2 hx2 hA2 PL1 M1
  go_wp2_with fail
  rw [← HX.out, ← HA.out]
  clear HX HA
  go_wp2_with fail
  have dd := Do_at x2 p b 2 0 5 (lf v t) (lf o t) ⟨3, ⟨#[97]⟩, o, 0⟩ ⟨0, ⟨#[]⟩, 0⟩ PL2.out ⟨by show (_ : Int) ≤ 3 ∧ (3 : Int) < _; omega, (by decide : (1 : Nat) ≤ 140737488351232), OS.out, (by decide : (0 : Nat) < 18446744073709551616)⟩ (by omega) (fun c => l3 v o t c OB.out (by have := T1.out; omega))
  simp only [Rq.row, Rp.row] at dd
  refine dd.mono ?_; rintro e v3 ⟨rfl, pl, mp⟩
  clear dd
  obtain ⟨A3, hA3⟩ : ∃ A, A = v3.heap.size := ⟨_, rfl⟩
  obtain ⟨x3, hx3⟩ : ∃ x, x = v3.alloc (.cells #[.int .i64 0, .string ⟨#[]⟩, .int .u64 0] 41) := ⟨_, rfl⟩
  have ma : Mp p b v3 x3 := by rw [hx3]; exact Mp.al _ _
  have pl2 : PL x3 p b 3 0 5 (lf o t) := by rw [hx3]; exact pl.below ((Below.refl _ _).alloc (Nat.le_refl _) _)
  have rw2 : Rw p b x3 A3 ⟨0, ⟨#[]⟩, 0⟩ := by rw [hx3, hA3]; exact Rw.new (y := ⟨0, ⟨#[]⟩, 0⟩) pl.lts.1 pl.lts.2
  have mp2 := mp.trans ma
  have R1_3 := Lib.hid (R1.out.mp mp2)
  clear R1
  have R1 := R1_3
  clear R1_3
  have R2_3 := Lib.hid (R2.out.mp mp2)
  clear R2
  have R2 := R2_3
  clear R2_3
  have R3 := Lib.hid rw2
  have M3 := Lib.hid (M2.out.trans mp2)
  have PL3 := Lib.hid pl2
  have HX := Lib.hid hx3
  have HA := Lib.hid hA3
  clear pl mp ma pl2 rw2 mp2 hx3 hA3 PL2 M2
  go_wp2_with fail
  rw [← HX.out, ← HA.out]
  clear HX HA
  go_wp2_with fail
  have dd := Tick_at x3 p b 3 0 u 5 (lf o t) u PL3.out (by omega) (by have := U2.out; omega) (by rw [addV_0 u (by have := U2.out; omega)])
  refine dd.mono ?_; rintro e xt ⟨⟨dt, rfl⟩, pl, mp⟩
  clear dd
  have R1_t := Lib.hid (R1.out.mp mp)
  clear R1
  have R1 := R1_t
  clear R1_t
  have R2_t := Lib.hid (R2.out.mp mp)
  clear R2
  have R2 := R2_t
  clear R2_t
  have R3_t := Lib.hid (R3.out.mp mp)
  clear R3
  have R3 := R3_t
  clear R3_t
  have Mt := Lib.hid (M3.out.trans mp)
  have PLt := Lib.hid pl
  clear pl mp PL3 M3
  go_wp2_with fail
  by_cases hut : u < t
  · have HUT := Lib.hid hut
    have hge : (decide ((u : Int) ≥ (t : Int))) = false := decide_eq_false (by omega)
    have hge2 : (t ≤ u) = False := eq_false (by omega)
    clear hut
    have dd := Do_at xt p b 3 u 5 (lf o t) (lf o t) ⟨1, ⟨#[97]⟩, ⟨#[]⟩, 0⟩ ⟨0, o, t⟩ PLt.out (rq_kind _ (by decide +kernel)) (by omega) (fun c => l2 o t u c HUT.out)
    simp only [Rq.row, Rp.row] at dd
    refine dd.mono ?_; rintro e v4 ⟨rfl, pl, mp⟩
    clear dd
    obtain ⟨A4, hA4⟩ : ∃ A, A = v4.heap.size := ⟨_, rfl⟩
    obtain ⟨x4, hx4⟩ : ∃ x, x = v4.alloc (.cells #[.int .i64 0, .string o, .int .u64 (t : Int)] 41) := ⟨_, rfl⟩
    have ma : Mp p b v4 x4 := by rw [hx4]; exact Mp.al _ _
    have pl2 : PL x4 p b 4 u 5 (lf o t) := by rw [hx4]; exact pl.below ((Below.refl _ _).alloc (Nat.le_refl _) _)
    have rw2 : Rw p b x4 A4 ⟨0, o, t⟩ := by rw [hx4, hA4]; exact Rw.new (y := ⟨0, o, t⟩) pl.lts.1 pl.lts.2
    have mp2 := mp.trans ma
    have R1_4 := Lib.hid (R1.out.mp mp2)
    clear R1
    have R1 := R1_4
    clear R1_4
    have R2_4 := Lib.hid (R2.out.mp mp2)
    clear R2
    have R2 := R2_4
    clear R2_4
    have R3_4 := Lib.hid (R3.out.mp mp2)
    clear R3
    have R3 := R3_4
    clear R3_4
    have R4 := Lib.hid rw2
    have M4 := Lib.hid (Mt.out.trans mp2)
    have PL4 := Lib.hid pl2
    have HX := Lib.hid hx4
    have HA := Lib.hid hA4
    clear pl mp ma pl2 rw2 mp2 hx4 hA4 PLt Mt
    obtain ⟨a1, b1, c1⟩ := R1.out.cells
    simp only at a1 b1 c1
    rw [HX.out] at a1 b1 c1
    obtain ⟨a2, b2, c2⟩ := R2.out.cells
    simp only at a2 b2 c2
    rw [HX.out] at a2 b2 c2
    obtain ⟨a3, b3, c3⟩ := R3.out.cells
    simp only at a3 b3 c3
    rw [HX.out] at a3 b3 c3
    obtain ⟨a4, b4, c4⟩ := R4.out.cells
    simp only at a4 b4 c4
    rw [HX.out, HA.out] at a4 b4 c4
    go_wp2_with fail
    rw [← HX.out, ← HA.out]
    clear HX HA
    clear a1 b1 c1 a2 b2 c2 a3 b3 c3 a4 b4 c4
    have dd := Do_at x4 p b 4 u 5 (lf o t) (upd (lf o t) ⟨#[97]⟩ none) ⟨4, ⟨#[97]⟩, ⟨#[]⟩, 0⟩ ⟨0, ⟨#[]⟩, 0⟩ PL4.out (rq_kind _ (by decide +kernel)) (by omega) (fun c => l4 o t u c HUT.out)
    simp only [Rq.row, Rp.row] at dd
    refine dd.mono ?_; rintro e v5 ⟨rfl, pl, mp⟩
    clear dd
    obtain ⟨A5, hA5⟩ : ∃ A, A = v5.heap.size := ⟨_, rfl⟩
    obtain ⟨x5, hx5⟩ : ∃ x, x = v5.alloc (.cells #[.int .i64 0, .string ⟨#[]⟩, .int .u64 0] 41) := ⟨_, rfl⟩
    have ma : Mp p b v5 x5 := by rw [hx5]; exact Mp.al _ _
    have pl2 : PL x5 p b 5 u 5 (upd (lf o t) ⟨#[97]⟩ none) := by rw [hx5]; exact pl.below ((Below.refl _ _).alloc (Nat.le_refl _) _)
    have rw2 : Rw p b x5 A5 ⟨0, ⟨#[]⟩, 0⟩ := by rw [hx5, hA5]; exact Rw.new (y := ⟨0, ⟨#[]⟩, 0⟩) pl.lts.1 pl.lts.2
    have mp2 := mp.trans ma
    have R1_5 := Lib.hid (R1.out.mp mp2)
    clear R1
    have R1 := R1_5
    clear R1_5
    have R2_5 := Lib.hid (R2.out.mp mp2)
    clear R2
    have R2 := R2_5
    clear R2_5
    have R3_5 := Lib.hid (R3.out.mp mp2)
    clear R3
    have R3 := R3_5
    clear R3_5
    have R4_5 := Lib.hid (R4.out.mp mp2)
    clear R4
    have R4 := R4_5
    clear R4_5
    have R5 := Lib.hid rw2
    have M5 := Lib.hid (M4.out.trans mp2)
    have PL5 := Lib.hid pl2
    have HX := Lib.hid hx5
    have HA := Lib.hid hA5
    clear pl mp ma pl2 rw2 mp2 hx5 hA5 PL4 M4
    go_wp2_with fail
    rw [← HX.out, ← HA.out]
    clear HX HA
    go_wp2_with fail
    have dd := Do_at x5 p b 5 u 5 (upd (lf o t) ⟨#[97]⟩ none) (upd (lf o t) ⟨#[97]⟩ none) ⟨1, ⟨#[97]⟩, ⟨#[]⟩, 0⟩ ⟨3, ⟨#[]⟩, 0⟩ PL5.out (rq_kind _ (by decide +kernel)) (by omega) (fun c => l5 (lf o t) u c)
    simp only [Rq.row, Rp.row] at dd
    refine dd.mono ?_; rintro e v6 ⟨rfl, pl, mp⟩
    clear dd
    obtain ⟨A6, hA6⟩ : ∃ A, A = v6.heap.size := ⟨_, rfl⟩
    obtain ⟨x6, hx6⟩ : ∃ x, x = v6.alloc (.cells #[.int .i64 3, .string ⟨#[]⟩, .int .u64 0] 41) := ⟨_, rfl⟩
    have ma : Mp p b v6 x6 := by rw [hx6]; exact Mp.al _ _
    have pl2 : PL x6 p b 6 u 5 (upd (lf o t) ⟨#[97]⟩ none) := by rw [hx6]; exact pl.below ((Below.refl _ _).alloc (Nat.le_refl _) _)
    have rw2 : Rw p b x6 A6 ⟨3, ⟨#[]⟩, 0⟩ := by rw [hx6, hA6]; exact Rw.new (y := ⟨3, ⟨#[]⟩, 0⟩) pl.lts.1 pl.lts.2
    have mp2 := mp.trans ma
    have R1_6 := Lib.hid (R1.out.mp mp2)
    clear R1
    have R1 := R1_6
    clear R1_6
    have R2_6 := Lib.hid (R2.out.mp mp2)
    clear R2
    have R2 := R2_6
    clear R2_6
    have R3_6 := Lib.hid (R3.out.mp mp2)
    clear R3
    have R3 := R3_6
    clear R3_6
    have R4_6 := Lib.hid (R4.out.mp mp2)
    clear R4
    have R4 := R4_6
    clear R4_6
    have R5_6 := Lib.hid (R5.out.mp mp2)
    clear R5
    have R5 := R5_6
    clear R5_6
    have R6 := Lib.hid rw2
    have M6 := Lib.hid (M5.out.trans mp2)
    have PL6 := Lib.hid pl2
    have HX := Lib.hid hx6
    have HA := Lib.hid hA6
    clear pl mp ma pl2 rw2 mp2 hx6 hA6 PL5 M5
    obtain ⟨a1, b1, c1⟩ := R1.out.cells
    simp only at a1 b1 c1
    rw [HX.out] at a1 b1 c1
    obtain ⟨a2, b2, c2⟩ := R2.out.cells
    simp only at a2 b2 c2
    rw [HX.out] at a2 b2 c2
    obtain ⟨a3, b3, c3⟩ := R3.out.cells
    simp only at a3 b3 c3
    rw [HX.out] at a3 b3 c3
    obtain ⟨a4, b4, c4⟩ := R4.out.cells
    simp only at a4 b4 c4
    rw [HX.out] at a4 b4 c4
    obtain ⟨a5, b5, c5⟩ := R5.out.cells
    simp only at a5 b5 c5
    rw [HX.out] at a5 b5 c5
    obtain ⟨a6, b6, c6⟩ := R6.out.cells
    simp only at a6 b6 c6
    rw [HX.out, HA.out] at a6 b6 c6
    go_wp2_with fail
    rw [← HX.out, ← HA.out]
    clear HX HA
    clear a1 b1 c1 a2 b2 c2 a3 b3 c3 a4 b4 c4 a5 b5 c5 a6 b6 c6
    refine (fixed_val _).mono ?_; rintro e u6 ⟨rfl, c6⟩
    go_wp2_with fail
    go_ret
    exact ⟨rfl, BL0.out.trans (((M6.out.trans (Mp.of_below c6)).below (B := w.heap.size) HP.out.1 HP.out.2 BL0.out.size))⟩
  · have HUT := Lib.hid hut
    have hge : (decide ((u : Int) ≥ (t : Int))) = true := decide_eq_true (by omega)
    have hge2 : (t ≤ u) = True := eq_true (by omega)
    clear hut
    have dd := Do_at xt p b 3 u 5 (lf o t) (lf o t) ⟨1, ⟨#[97]⟩, ⟨#[]⟩, 0⟩ ⟨3, ⟨#[]⟩, 0⟩ PLt.out (rq_kind _ (by decide +kernel)) (by omega) (fun c => l2n o t u c HUT.out)
    simp only [Rq.row, Rp.row] at dd
    refine dd.mono ?_; rintro e v4 ⟨rfl, pl, mp⟩
    clear dd
    obtain ⟨A7, hA7⟩ : ∃ A, A = v4.heap.size := ⟨_, rfl⟩
    obtain ⟨x4, hx4⟩ : ∃ x, x = v4.alloc (.cells #[.int .i64 3, .string ⟨#[]⟩, .int .u64 0] 41) := ⟨_, rfl⟩
    have ma : Mp p b v4 x4 := by rw [hx4]; exact Mp.al _ _
    have pl2 : PL x4 p b 4 u 5 (lf o t) := by rw [hx4]; exact pl.below ((Below.refl _ _).alloc (Nat.le_refl _) _)
    have rw2 : Rw p b x4 A7 ⟨3, ⟨#[]⟩, 0⟩ := by rw [hx4, hA7]; exact Rw.new (y := ⟨3, ⟨#[]⟩, 0⟩) pl.lts.1 pl.lts.2
    have mp2 := mp.trans ma
    have R1_4 := Lib.hid (R1.out.mp mp2)
    clear R1
    have R1 := R1_4
    clear R1_4
    have R2_4 := Lib.hid (R2.out.mp mp2)
    clear R2
    have R2 := R2_4
    clear R2_4
    have R3_4 := Lib.hid (R3.out.mp mp2)
    clear R3
    have R3 := R3_4
    clear R3_4
    have R7 := Lib.hid rw2
    have M4 := Lib.hid (Mt.out.trans mp2)
    have PL4 := Lib.hid pl2
    have HX := Lib.hid hx4
    have HA := Lib.hid hA7
    clear pl mp ma pl2 rw2 mp2 hx4 hA7 PLt Mt
    obtain ⟨a1, b1, c1⟩ := R1.out.cells
    simp only at a1 b1 c1
    rw [HX.out] at a1 b1 c1
    obtain ⟨a2, b2, c2⟩ := R2.out.cells
    simp only at a2 b2 c2
    rw [HX.out] at a2 b2 c2
    obtain ⟨a3, b3, c3⟩ := R3.out.cells
    simp only at a3 b3 c3
    rw [HX.out] at a3 b3 c3
    obtain ⟨a7, b7, c7⟩ := R7.out.cells
    simp only at a7 b7 c7
    rw [HX.out, HA.out] at a7 b7 c7
    go_wp2_with fail
    rw [← HX.out, ← HA.out]
    clear HX HA
    clear a1 b1 c1 a2 b2 c2 a3 b3 c3 a7 b7 c7
    refine (sess_empty x4 p b 4 u 5 (lf o t) PL4.out (by omega) (IsSes.dead u ⟨⟨#[97]⟩, o, t⟩ (lf o t) rfl HUT.out)).mono ?_; rintro e u5 ⟨rfl, c5⟩
    go_wp2_with fail
    refine (fixed_val _).mono ?_; rintro e u6 ⟨rfl, c6⟩
    go_wp2_with fail
    go_ret
    exact ⟨rfl, BL0.out.trans (((M4.out.trans (Mp.of_below (stepR c5 c6))).below (B := w.heap.size) HP.out.1 HP.out.2 BL0.out.size))⟩

theorem PlainLives_walk (a0 a1 : ByteArray) (a2 : List Int) (w : World) (w0 : a0.size ≤ 140737488351232) (w1 : a1.size ≤ 140737488351232) (l2 : a2.length = 2) (w2 : ∀ z ∈ a2, (Lit.int .u32 z).wf = true) :
    Calls Try.prog 5 #[.string a0, .string a1, .agg (a2.map (Value.int .u32)).toArray] w fun e w' => e = .returned (.bool true) ∧ Below w.heap.size w w' := by
  match a2, l2, w2 with
  | [c, d], _, w2 =>
    obtain ⟨m, rfl, hm⟩ := u32_wf c (w2 c (by simp))
    obtain ⟨n, rfl, hn⟩ := u32_wf d (w2 d (by simp))
    exact lives_main a0 a1 m n _ _ _ w w0 w1 rfl rfl rfl hm hn
end Go.Proofs.Ytmbidannodelfaa.L
