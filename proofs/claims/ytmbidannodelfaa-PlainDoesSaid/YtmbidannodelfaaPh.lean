/- The fixed calls of package plain. -/
import Derived.Test.YtmbidannodelfaaPr
import Derived.Test.YtmbidannodelfaaPadd
namespace Go.Proofs.Ytmbidannodelfaa.G
open Go.RowKit Go.Maps Go.Proofs.Ytmbidannodelfaa.WordPlain Go.Proofs.Ytmbidannodelfaa.Loose
set_option linter.unusedVariables false
set_option linter.unusedSimpArgs false

theorem IsSes.congr {now now' : Nat} {f g : ByteArray → Option Ses} {L : List Ses} (h : IsSes now f L) (he : ∀ s, (f s.id = some s ∧ now < s.dl) ↔ (g s.id = some s ∧ now' < s.dl)) : IsSes now' g L := ⟨h.sorted, fun s => (h.mem s).trans (he s)⟩
theorem IsSes.nil0 (now : Nat) : IsSes now (fun _ => none) [] := ⟨List.Pairwise.nil, fun s => ⟨fun h => (by cases h), fun h => (by cases h.1)⟩⟩
theorem IsSes.one (now : Nat) (s : Ses) (f : ByteArray → Option Ses) (hf : f = upd (fun _ => none) s.id (some s)) (hl : now < s.dl) : IsSes now f [s] := by
  refine ⟨List.pairwise_singleton _ _, fun x => ?_⟩
  rw [List.mem_singleton, hf]
  unfold upd
  constructor
  · rintro rfl; exact ⟨if_pos rfl, hl⟩
  · rintro ⟨h1, _⟩
    by_cases hx : x.id = s.id
    · rw [if_pos hx] at h1; injection h1 with h1; exact h1.symm
    · rw [if_neg hx] at h1; cases h1
theorem IsSes.dead (now : Nat) (s : Ses) (f : ByteArray → Option Ses) (hf : f = upd (fun _ => none) s.id (some s)) (hl : ¬ now < s.dl) : IsSes now f [] := by
  refine ⟨List.Pairwise.nil, fun x => ⟨fun h => (by cases h), fun ⟨h1, h2⟩ => ?_⟩⟩
  rw [hf] at h1
  unfold upd at h1
  by_cases hx : x.id = s.id
  · rw [if_pos hx] at h1; injection h1 with h1; subst h1; exact absurd h2 hl
  · rw [if_neg hx] at h1; cases h1
theorem IsSes.over (now : Nat) (s t : Ses) (f : ByteArray → Option Ses) (hf : f = upd (upd (fun _ => none) s.id (some s)) t.id (some t)) (hst : s.id ≠ t.id) (hs : ¬ now < s.dl) : ∀ x : Ses, (upd (fun _ => none) t.id (some t) x.id = some x ∧ now < x.dl) ↔ (f x.id = some x ∧ now < x.dl) := by
  intro x
  rw [hf]
  unfold upd
  by_cases hx : x.id = t.id
  · rw [if_pos hx, if_pos hx]
  · rw [if_neg hx, if_neg hx]
    by_cases hy : x.id = s.id
    · rw [if_pos hy]
      constructor
      · rintro ⟨h, _⟩; cases h
      · rintro ⟨h1, h2⟩; injection h1 with h1; subst h1; exact absurd h2 hs
    · rw [if_neg hy]
theorem upd_upd (f : ByteArray → Option Ses) (k : ByteArray) (s t : Option Ses) : upd (upd f k s) k t = upd f k t := by
  funext x
  unfold upd
  by_cases h : x = k
  · rw [if_pos h, if_pos h]
  · rw [if_neg h, if_neg h, if_neg h]
set_option maxRecDepth 100000 in
theorem rLater_val (a b c : Nat) (w : World) (ha : a < 18446744073709551616) (hb : b < 18446744073709551616) (hc : Hid (c = addV a b)) :
    Calls Try.prog 27 #[.int .u64 a, .int .u64 b] w fun e w' => e = .returned (.int .u64 c) ∧ w = w' := by
  have h := fun W => rAdd_val a b c (addO a b) W ha hb hc (Lib.hid rfl)
  have H := Lib.hid h
  clear h
  go_enter Try.func27, Try.ntmps27
  go_wp2_with fail
  refine (H.out _).mono ?_; rintro e w1 ⟨rfl, rfl⟩
  go_wp2_with fail
  go_ret
  exact ⟨rfl, rfl⟩
set_option maxRecDepth 100000 in
theorem INF_val (w : World) : Calls Try.prog 46 #[.int .i64 1] w fun e w' => e = .returned (.float .f64 9218868437227405312) ∧ w = w' := by
  have fr : ∀ W : World, (callFunc 45 #[.int .u64 9218868437227405312]).run Try.prog W = .ok (.value (.float .f64 9218868437227405312)) W := fun _ => by kernel_rfl
  go_enter Try.func46, Try.ntmps46
  go_wp2_with fail
  go_ret
  exact ⟨rfl, rfl⟩
theorem Do_is (w : World) (p b n now : Nat) (q : Int) (f g : ByteArray → Option Ses) (r : Rq) (y : Rp) (L : List Ses) (h : PL w p b n now q f) (hr : r.Kind) (hn : n < 1000000) (hL : IsSes now f L) (hy : doR now q f L.length r = y) (hg : doF now q f L.length r = g) :
    Calls Try.prog 14 #[.pointer (some ⟨p, 0, none⟩), .agg r.row] w fun e w' => e = .returned (.agg y.row) ∧ PL w' p b (n + 1) now q g ∧ Mp p b w w' := by
  subst hy hg
  exact Do_val w p b n now q f r L h hr hn hL
/-- a row beside the store -/
def Rw (p b : Nat) (W : World) (A : Nat) (y : Rp) : Prop := W.heap[A]? = some (.cells y.row 41 (0, 0)) ∧ A ≠ p ∧ A ≠ b
theorem Rw.mp {p b A : Nat} {W V : World} {y : Rp} (h : Rw p b W A y) (m : Mp p b W V) : Rw p b V A y := ⟨(m.block _ (lt_of_rowR h.1) h.2.1 h.2.2).trans h.1, h.2.1, h.2.2⟩
theorem Rw.new {p b : Nat} {W : World} {y : Rp} (hp : p < W.heap.size) (hb : b < W.heap.size) : Rw p b (W.alloc (.cells y.row 41)) W.heap.size y := ⟨heap_alloc_new _ _, by omega, by omega⟩
theorem Mp.al {p b : Nat} (W : World) (o : Obj) : Mp p b W (W.alloc o) := Mp.of_below ((Below.refl _ _).alloc (Nat.le_refl _) _)
theorem Rw.cells {p b A : Nat} {W : World} {y : Rp} (h : Rw p b W A y) : W.cell? ⟨A, 0, none⟩ = some (.int .i64 y.err) ∧ W.cell? ⟨A, 1, none⟩ = some (.string y.va) ∧ W.cell? ⟨A, 2, none⟩ = some (.int .u64 (y.dl : Int)) :=
  ⟨(cell_of_row _ _ 0 _ _ _ h.1).trans rfl, (cell_of_row _ _ 1 _ _ _ h.1).trans rfl, (cell_of_row _ _ 2 _ _ _ h.1).trans rfl⟩

def q1 : Rq := ⟨0, ⟨#[97]⟩, ⟨#[118]⟩, 4617878467915022336⟩
def q2 : Rq := ⟨0, ⟨#[98]⟩, ⟨#[]⟩, 4617315517961601024⟩
def q3 : Rq := ⟨0, ⟨#[97]⟩, ⟨#[]⟩, 4617315517961601024⟩
def q4 : Rq := ⟨1, ⟨#[97]⟩, ⟨#[]⟩, 0⟩
def q5 : Rq := ⟨3, ⟨#[97]⟩, ⟨#[119]⟩, 0⟩
def q6 : Rq := ⟨0, ⟨#[98]⟩, ⟨#[]⟩, 9221120237041090561⟩
def q8 : Rq := ⟨1, ⟨#[97]⟩, ⟨#[]⟩, 0⟩
def q9 : Rq := ⟨0, ⟨#[98]⟩, ⟨#[]⟩, 9218868437227405312⟩
def s1 : Ses := ⟨⟨#[97]⟩, ⟨#[118]⟩, 5⟩
def s5 : Ses := ⟨⟨#[97]⟩, ⟨#[119]⟩, 5⟩
def s9 : Ses := ⟨⟨#[98]⟩, ⟨#[]⟩, 18446744073709551615⟩
def g0 : ByteArray → Option Ses := fun _ => none
def g1 : ByteArray → Option Ses := upd g0 ⟨#[97]⟩ (some s1)
def g5 : ByteArray → Option Ses := upd g0 ⟨#[97]⟩ (some s5)
def g9 : ByteArray → Option Ses := upd g5 ⟨#[98]⟩ (some s9)
theorem y1 : doR 0 1 g0 0 q1 = ⟨0, ⟨#[]⟩, 5⟩ := by decide +kernel
theorem z1 : doF 0 1 g0 0 q1 = g1 := by
  unfold doF
  rw [if_neg (by decide +kernel), if_pos (by decide +kernel), if_neg (by decide +kernel), if_neg (by decide +kernel)]
  have e : (⟨q1.id, q1.va, ddl 0 q1⟩ : Ses) = s1 := by decide +kernel
  rw [e]; rfl
theorem y2 : doR 0 1 g1 1 q2 = ⟨7, ⟨#[]⟩, 0⟩ := by decide +kernel
theorem z2 : doF 0 1 g1 1 q2 = g1 := by
  unfold doF
  rw [if_neg (by decide +kernel), if_pos (by decide +kernel), if_neg (by decide +kernel), if_pos (by decide +kernel)]
theorem y3 : doR 0 1 g1 1 q3 = ⟨4, ⟨#[]⟩, 0⟩ := by decide +kernel
theorem z3 : doF 0 1 g1 1 q3 = g1 := by
  unfold doF
  rw [if_neg (by decide +kernel), if_pos (by decide +kernel), if_pos (by decide +kernel)]
theorem y4 : doR 0 1 g1 1 q4 = ⟨0, ⟨#[118]⟩, 5⟩ := by decide +kernel
theorem z4 : doF 0 1 g1 1 q4 = g1 := by
  unfold doF
  rw [if_neg (by decide +kernel), if_neg (by decide +kernel), if_neg (by decide +kernel), if_pos (by decide +kernel)]
theorem y5 : doR 0 1 g1 1 q5 = ⟨0, ⟨#[]⟩, 0⟩ := by decide +kernel
theorem z5 : doF 0 1 g1 1 q5 = g5 := by
  unfold doF
  rw [if_neg (by decide +kernel), if_neg (by decide +kernel), if_neg (by decide +kernel), if_neg (by decide +kernel), if_neg (by decide +kernel), if_pos (by decide +kernel)]
  have e : (⟨q5.id, q5.va, ((g1 q5.id).getD Ses.zero).dl⟩ : Ses) = s5 := by decide +kernel
  rw [e]
  exact upd_upd g0 ⟨#[97]⟩ (some s1) (some s5)
theorem y6 : doR 0 1 g5 1 q6 = ⟨1, ⟨#[]⟩, 0⟩ := by decide +kernel
theorem z6 : doF 0 1 g5 1 q6 = g5 := by
  unfold doF
  rw [if_pos (by decide +kernel)]
theorem y8 : doR 5 1 g5 0 q8 = ⟨3, ⟨#[]⟩, 0⟩ := by decide +kernel
theorem z8 : doF 5 1 g5 0 q8 = g5 := by
  unfold doF
  rw [if_neg (by decide +kernel), if_neg (by decide +kernel), if_pos (by decide +kernel)]
theorem y9 : doR 5 1 g5 0 q9 = ⟨0, ⟨#[]⟩, 18446744073709551615⟩ := by decide +kernel
theorem z9 : doF 5 1 g5 0 q9 = g9 := by
  unfold doF
  rw [if_neg (by decide +kernel), if_pos (by decide +kernel), if_neg (by decide +kernel), if_neg (by decide +kernel)]
  have e : (⟨q9.id, q9.va, ddl 5 q9⟩ : Ses) = s9 := by decide +kernel
  rw [e]; rfl
theorem rq_kind (r : Rq) (h : decide (-9223372036854775808 ≤ r.kind ∧ r.kind < 9223372036854775808 ∧ r.id.size ≤ 140737488351232 ∧ r.va.size ≤ 140737488351232 ∧ r.ttl < 18446744073709551616) = true) : r.Kind := by
  obtain ⟨a, b, c, d, e⟩ := of_decide_eq_true h
  exact ⟨⟨a, b⟩, c, d, e⟩
theorem i0 : IsSes 0 g0 [] := IsSes.nil0 0
theorem i1 : IsSes 0 g1 [s1] := IsSes.one 0 s1 g1 rfl (by decide)
theorem i5 : IsSes 0 g5 [s5] := IsSes.one 0 s5 g5 rfl (by decide)
theorem i5d : IsSes 5 g5 [] := IsSes.dead 5 s5 g5 rfl (by decide)
theorem i9 : IsSes 5 g9 [s9] := (IsSes.one 5 s9 _ rfl (by decide)).congr (IsSes.over 5 s5 s9 g9 rfl (by decide +kernel) (by decide))
theorem i9d : IsSes 18446744073709551615 g9 [] := (IsSes.dead 18446744073709551615 s9 _ rfl (by decide)).congr (IsSes.over 18446744073709551615 s5 s9 g9 rfl (by decide +kernel) (by decide))
set_option maxRecDepth 100000 in
set_option maxHeartbeats 16000000 in
theorem fixed_val (w : World) : Calls Try.prog 25 #[] w fun e w' => e = .returned (.bool true) ∧ Below w.heap.size w w' := by
  have fr : ∀ W : World, (callFunc 45 #[.int .u64 9221120237041090561]).run Try.prog W = .ok (.value (.float .f64 9221120237041090561)) W := fun _ => by kernel_rfl
  have HL := Lib.hid (fun W => rLater_val 9 18446744073709551615 18446744073709551615 W (by omega) (by omega) (Lib.hid (by decide)))
  have HNEW := Lib.hid (New_val w 0 1 (by omega))
  go_enter Try.func25, Try.ntmps25
  go_wp2_with fail
  refine (HNEW.out).mono ?_; rintro e w0 ⟨rfl, pl, bl, hz⟩
  obtain ⟨p, hp⟩ : ∃ p, p = w.heap.size + 1 := ⟨_, rfl⟩
  obtain ⟨b, hb⟩ : ∃ b, b = w.heap.size := ⟨_, rfl⟩
  rw [← hp, ← hb] at pl
  rw [← hp]
  have HP := Lib.hid hp
  have HB := Lib.hid hb
  have PL0 := Lib.hid pl
  have BL0 := Lib.hid bl
  have M0 := Lib.hid (Mp.refl p b w0)
  clear hp hb pl bl hz HNEW
  go_wp2_with fail
  have dd := Do_is w0 p b 0 0 1 g0 g1 q1 ⟨0, ⟨#[]⟩, 5⟩ [] PL0.out (rq_kind _ (by decide +kernel)) (by omega) i0 y1 z1
  simp only [q1, Rq.row, Rp.row] at dd
  refine dd.mono ?_; rintro e v1 ⟨rfl, pl, mp⟩
  clear dd
  obtain ⟨A1, hA1⟩ : ∃ A, A = v1.heap.size := ⟨_, rfl⟩
  obtain ⟨x1, hx1⟩ : ∃ x, x = v1.alloc (.cells #[.int .i64 0, .string ⟨#[]⟩, .int .u64 5] 41) := ⟨_, rfl⟩
  have ma : Mp p b v1 x1 := by rw [hx1]; exact Mp.al _ _
  have pl2 : PL x1 p b 1 0 1 g1 := by rw [hx1]; exact pl.below ((Below.refl _ _).alloc (Nat.le_refl _) _)
  have rw2 : Rw p b x1 A1 ⟨0, ⟨#[]⟩, 5⟩ := by rw [hx1, hA1]; exact Rw.new (y := ⟨0, ⟨#[]⟩, 5⟩) pl.lts.1 pl.lts.2
  have mp2 := mp.trans ma
  have R1 := Lib.hid rw2
  have M1 := Lib.hid (M0.out.trans mp2)
  have PL1 := Lib.hid pl2
  have HX := Lib.hid hx1
  have HA := Lib.hid hA1
  clear pl mp ma pl2 rw2 mp2 hx1 hA1 PL0 M0
  go_wp2_with fail
  rw [← HX.out, ← HA.out]
  clear HX HA
  go_wp2_with fail
  have dd := Do_is x1 p b 1 0 1 g1 g1 q2 ⟨7, ⟨#[]⟩, 0⟩ [s1] PL1.out (rq_kind _ (by decide +kernel)) (by omega) i1 y2 z2
  simp only [q2, Rq.row, Rp.row] at dd
  refine dd.mono ?_; rintro e v2 ⟨rfl, pl, mp⟩
  clear dd
  obtain ⟨A2, hA2⟩ : ∃ A, A = v2.heap.size := ⟨_, rfl⟩
  obtain ⟨x2, hx2⟩ : ∃ x, x = v2.alloc (.cells #[.int .i64 7, .string ⟨#[]⟩, .int .u64 0] 41) := ⟨_, rfl⟩
  have ma : Mp p b v2 x2 := by rw [hx2]; exact Mp.al _ _
  have pl2 : PL x2 p b 2 0 1 g1 := by rw [hx2]; exact pl.below ((Below.refl _ _).alloc (Nat.le_refl _) _)
  have rw2 : Rw p b x2 A2 ⟨7, ⟨#[]⟩, 0⟩ := by rw [hx2, hA2]; exact Rw.new (y := ⟨7, ⟨#[]⟩, 0⟩) pl.lts.1 pl.lts.2
  have mp2 := mp.trans ma
  have R1_2 := Lib.hid (R1.out.mp mp2)
  clear R1
  have R1 := R1_2
  clear R1_2
  have R2 := Lib.hid rw2
  have M2 := Lib.hid (M1.out.trans mp2)
  have PL2 := Lib.hid pl2
  have HX := Lib.hid hx2
  have HA := Lib.hid hA2
  clear pl mp ma pl2 rw2 mp2 hx2 hA2 PL1 M1
  go_wp2_with fail
  rw [← HX.out, ← HA.out]
  clear HX HA
  go_wp2_with fail
  have dd := Do_is x2 p b 2 0 1 g1 g1 q3 ⟨4, ⟨#[]⟩, 0⟩ [s1] PL2.out (rq_kind _ (by decide +kernel)) (by omega) i1 y3 z3
  simp only [q3, Rq.row, Rp.row] at dd
  refine dd.mono ?_; rintro e v3 ⟨rfl, pl, mp⟩
  clear dd
  obtain ⟨A3, hA3⟩ : ∃ A, A = v3.heap.size := ⟨_, rfl⟩
  obtain ⟨x3, hx3⟩ : ∃ x, x = v3.alloc (.cells #[.int .i64 4, .string ⟨#[]⟩, .int .u64 0] 41) := ⟨_, rfl⟩
  have ma : Mp p b v3 x3 := by rw [hx3]; exact Mp.al _ _
  have pl2 : PL x3 p b 3 0 1 g1 := by rw [hx3]; exact pl.below ((Below.refl _ _).alloc (Nat.le_refl _) _)
  have rw2 : Rw p b x3 A3 ⟨4, ⟨#[]⟩, 0⟩ := by rw [hx3, hA3]; exact Rw.new (y := ⟨4, ⟨#[]⟩, 0⟩) pl.lts.1 pl.lts.2
  have mp2 := mp.trans ma
  have R1_3 := Lib.hid (R1.out.mp mp2)
  clear R1
  have R1 := R1_3
  clear R1_3
  have R2_3 := Lib.hid (R2.out.mp mp2)
  clear R2
  have R2 := R2_3
  clear R2_3
  have R3 := Lib.hid rw2
  have M3 := Lib.hid (M2.out.trans mp2)
  have PL3 := Lib.hid pl2
  have HX := Lib.hid hx3
  have HA := Lib.hid hA3
  clear pl mp ma pl2 rw2 mp2 hx3 hA3 PL2 M2
  go_wp2_with fail
  rw [← HX.out, ← HA.out]
  clear HX HA
  go_wp2_with fail
  have dd := Do_is x3 p b 3 0 1 g1 g1 q4 ⟨0, ⟨#[118]⟩, 5⟩ [s1] PL3.out (rq_kind _ (by decide +kernel)) (by omega) i1 y4 z4
  simp only [q4, Rq.row, Rp.row] at dd
  refine dd.mono ?_; rintro e v4 ⟨rfl, pl, mp⟩
  clear dd
  obtain ⟨A4, hA4⟩ : ∃ A, A = v4.heap.size := ⟨_, rfl⟩
  obtain ⟨x4, hx4⟩ : ∃ x, x = v4.alloc (.cells #[.int .i64 0, .string ⟨#[118]⟩, .int .u64 5] 41) := ⟨_, rfl⟩
  have ma : Mp p b v4 x4 := by rw [hx4]; exact Mp.al _ _
  have pl2 : PL x4 p b 4 0 1 g1 := by rw [hx4]; exact pl.below ((Below.refl _ _).alloc (Nat.le_refl _) _)
  have rw2 : Rw p b x4 A4 ⟨0, ⟨#[118]⟩, 5⟩ := by rw [hx4, hA4]; exact Rw.new (y := ⟨0, ⟨#[118]⟩, 5⟩) pl.lts.1 pl.lts.2
  have mp2 := mp.trans ma
  have R1_4 := Lib.hid (R1.out.mp mp2)
  clear R1
  have R1 := R1_4
  clear R1_4
  have R2_4 := Lib.hid (R2.out.mp mp2)
  clear R2
  have R2 := R2_4
  clear R2_4
  have R3_4 := Lib.hid (R3.out.mp mp2)
  clear R3
  have R3 := R3_4
  clear R3_4
  have R4 := Lib.hid rw2
  have M4 := Lib.hid (M3.out.trans mp2)
  have PL4 := Lib.hid pl2
  have HX := Lib.hid hx4
  have HA := Lib.hid hA4
  clear pl mp ma pl2 rw2 mp2 hx4 hA4 PL3 M3
  go_wp2_with fail
  rw [← HX.out, ← HA.out]
  clear HX HA
  go_wp2_with fail
  have dd := Do_is x4 p b 4 0 1 g1 g5 q5 ⟨0, ⟨#[]⟩, 0⟩ [s1] PL4.out (rq_kind _ (by decide +kernel)) (by omega) i1 y5 z5
  simp only [q5, Rq.row, Rp.row] at dd
  refine dd.mono ?_; rintro e v5 ⟨rfl, pl, mp⟩
  clear dd
  obtain ⟨A5, hA5⟩ : ∃ A, A = v5.heap.size := ⟨_, rfl⟩
  obtain ⟨x5, hx5⟩ : ∃ x, x = v5.alloc (.cells #[.int .i64 0, .string ⟨#[]⟩, .int .u64 0] 41) := ⟨_, rfl⟩
  have ma : Mp p b v5 x5 := by rw [hx5]; exact Mp.al _ _
  have pl2 : PL x5 p b 5 0 1 g5 := by rw [hx5]; exact pl.below ((Below.refl _ _).alloc (Nat.le_refl _) _)
  have rw2 : Rw p b x5 A5 ⟨0, ⟨#[]⟩, 0⟩ := by rw [hx5, hA5]; exact Rw.new (y := ⟨0, ⟨#[]⟩, 0⟩) pl.lts.1 pl.lts.2
  have mp2 := mp.trans ma
  have R1_5 := Lib.hid (R1.out.mp mp2)
  clear R1
  have R1 := R1_5
  clear R1_5
  have R2_5 := Lib.hid (R2.out.mp mp2)
  clear R2
  have R2 := R2_5
  clear R2_5
  have R3_5 := Lib.hid (R3.out.mp mp2)
  clear R3
  have R3 := R3_5
  clear R3_5
  have R4_5 := Lib.hid (R4.out.mp mp2)
  clear R4
  have R4 := R4_5
  clear R4_5
  have R5 := Lib.hid rw2
  have M5 := Lib.hid (M4.out.trans mp2)
  have PL5 := Lib.hid pl2
  have HX := Lib.hid hx5
  have HA := Lib.hid hA5
  clear pl mp ma pl2 rw2 mp2 hx5 hA5 PL4 M4
  go_wp2_with fail
  rw [← HX.out, ← HA.out]
  clear HX HA
  go_wp2_with fail
  have dd := Do_is x5 p b 5 0 1 g5 g5 q6 ⟨1, ⟨#[]⟩, 0⟩ [s5] PL5.out (rq_kind _ (by decide +kernel)) (by omega) i5 y6 z6
  simp only [q6, Rq.row, Rp.row] at dd
  refine dd.mono ?_; rintro e v6 ⟨rfl, pl, mp⟩
  clear dd
  obtain ⟨A6, hA6⟩ : ∃ A, A = v6.heap.size := ⟨_, rfl⟩
  obtain ⟨x6, hx6⟩ : ∃ x, x = v6.alloc (.cells #[.int .i64 1, .string ⟨#[]⟩, .int .u64 0] 41) := ⟨_, rfl⟩
  have ma : Mp p b v6 x6 := by rw [hx6]; exact Mp.al _ _
  have pl2 : PL x6 p b 6 0 1 g5 := by rw [hx6]; exact pl.below ((Below.refl _ _).alloc (Nat.le_refl _) _)
  have rw2 : Rw p b x6 A6 ⟨1, ⟨#[]⟩, 0⟩ := by rw [hx6, hA6]; exact Rw.new (y := ⟨1, ⟨#[]⟩, 0⟩) pl.lts.1 pl.lts.2
  have mp2 := mp.trans ma
  have R1_6 := Lib.hid (R1.out.mp mp2)
  clear R1
  have R1 := R1_6
  clear R1_6
  have R2_6 := Lib.hid (R2.out.mp mp2)
  clear R2
  have R2 := R2_6
  clear R2_6
  have R3_6 := Lib.hid (R3.out.mp mp2)
  clear R3
  have R3 := R3_6
  clear R3_6
  have R4_6 := Lib.hid (R4.out.mp mp2)
  clear R4
  have R4 := R4_6
  clear R4_6
  have R5_6 := Lib.hid (R5.out.mp mp2)
  clear R5
  have R5 := R5_6
  clear R5_6
  have R6 := Lib.hid rw2
  have M6 := Lib.hid (M5.out.trans mp2)
  have PL6 := Lib.hid pl2
  have HX := Lib.hid hx6
  have HA := Lib.hid hA6
  clear pl mp ma pl2 rw2 mp2 hx6 hA6 PL5 M5
  go_wp2_with fail
  rw [← HX.out, ← HA.out]
  clear HX HA
  go_wp2_with fail
  have dd := Tick_val x6 p b 6 0 1 g5 5 5 [s5] [] PL6.out (by omega) (by omega) (by decide) i5 i5d (by decide) (by decide)
  refine dd.mono ?_; rintro e x7 ⟨rfl, pl, mp⟩
  clear dd
  have R1_7 := Lib.hid (R1.out.mp mp)
  clear R1
  have R1 := R1_7
  clear R1_7
  have R2_7 := Lib.hid (R2.out.mp mp)
  clear R2
  have R2 := R2_7
  clear R2_7
  have R3_7 := Lib.hid (R3.out.mp mp)
  clear R3
  have R3 := R3_7
  clear R3_7
  have R4_7 := Lib.hid (R4.out.mp mp)
  clear R4
  have R4 := R4_7
  clear R4_7
  have R5_7 := Lib.hid (R5.out.mp mp)
  clear R5
  have R5 := R5_7
  clear R5_7
  have R6_7 := Lib.hid (R6.out.mp mp)
  clear R6
  have R6 := R6_7
  clear R6_7
  have M7 := Lib.hid (M6.out.trans mp)
  have PL7 := Lib.hid pl
  clear pl mp PL6 M6
  go_wp2_with fail
  have dd := Do_is x7 p b 6 5 1 g5 g5 q8 ⟨3, ⟨#[]⟩, 0⟩ [] PL7.out (rq_kind _ (by decide +kernel)) (by omega) i5d y8 z8
  simp only [q8, Rq.row, Rp.row] at dd
  refine dd.mono ?_; rintro e v8 ⟨rfl, pl, mp⟩
  clear dd
  obtain ⟨A8, hA8⟩ : ∃ A, A = v8.heap.size := ⟨_, rfl⟩
  obtain ⟨x8, hx8⟩ : ∃ x, x = v8.alloc (.cells #[.int .i64 3, .string ⟨#[]⟩, .int .u64 0] 41) := ⟨_, rfl⟩
  have ma : Mp p b v8 x8 := by rw [hx8]; exact Mp.al _ _
  have pl2 : PL x8 p b 7 5 1 g5 := by rw [hx8]; exact pl.below ((Below.refl _ _).alloc (Nat.le_refl _) _)
  have rw2 : Rw p b x8 A8 ⟨3, ⟨#[]⟩, 0⟩ := by rw [hx8, hA8]; exact Rw.new (y := ⟨3, ⟨#[]⟩, 0⟩) pl.lts.1 pl.lts.2
  have mp2 := mp.trans ma
  have R1_8 := Lib.hid (R1.out.mp mp2)
  clear R1
  have R1 := R1_8
  clear R1_8
  have R2_8 := Lib.hid (R2.out.mp mp2)
  clear R2
  have R2 := R2_8
  clear R2_8
  have R3_8 := Lib.hid (R3.out.mp mp2)
  clear R3
  have R3 := R3_8
  clear R3_8
  have R4_8 := Lib.hid (R4.out.mp mp2)
  clear R4
  have R4 := R4_8
  clear R4_8
  have R5_8 := Lib.hid (R5.out.mp mp2)
  clear R5
  have R5 := R5_8
  clear R5_8
  have R6_8 := Lib.hid (R6.out.mp mp2)
  clear R6
  have R6 := R6_8
  clear R6_8
  have R8 := Lib.hid rw2
  have M8 := Lib.hid (M7.out.trans mp2)
  have PL8 := Lib.hid pl2
  have HX := Lib.hid hx8
  have HA := Lib.hid hA8
  clear pl mp ma pl2 rw2 mp2 hx8 hA8 PL7 M7
  go_wp2_with fail
  rw [← HX.out, ← HA.out]
  clear HX HA
  go_wp2_with fail
  refine (INF_val _).mono ?_; rintro e v ⟨rfl, rfl⟩
  go_wp2_with fail
  have dd := Do_is x8 p b 7 5 1 g5 g9 q9 ⟨0, ⟨#[]⟩, 18446744073709551615⟩ [] PL8.out (rq_kind _ (by decide +kernel)) (by omega) i5d y9 z9
  simp only [q9, Rq.row, Rp.row] at dd
  refine dd.mono ?_; rintro e v9 ⟨rfl, pl, mp⟩
  clear dd
  obtain ⟨A9, hA9⟩ : ∃ A, A = v9.heap.size := ⟨_, rfl⟩
  obtain ⟨x9, hx9⟩ : ∃ x, x = v9.alloc (.cells #[.int .i64 0, .string ⟨#[]⟩, .int .u64 18446744073709551615] 41) := ⟨_, rfl⟩
  have ma : Mp p b v9 x9 := by rw [hx9]; exact Mp.al _ _
  have pl2 : PL x9 p b 8 5 1 g9 := by rw [hx9]; exact pl.below ((Below.refl _ _).alloc (Nat.le_refl _) _)
  have rw2 : Rw p b x9 A9 ⟨0, ⟨#[]⟩, 18446744073709551615⟩ := by rw [hx9, hA9]; exact Rw.new (y := ⟨0, ⟨#[]⟩, 18446744073709551615⟩) pl.lts.1 pl.lts.2
  have mp2 := mp.trans ma
  have R1_9 := Lib.hid (R1.out.mp mp2)
  clear R1
  have R1 := R1_9
  clear R1_9
  have R2_9 := Lib.hid (R2.out.mp mp2)
  clear R2
  have R2 := R2_9
  clear R2_9
  have R3_9 := Lib.hid (R3.out.mp mp2)
  clear R3
  have R3 := R3_9
  clear R3_9
  have R4_9 := Lib.hid (R4.out.mp mp2)
  clear R4
  have R4 := R4_9
  clear R4_9
  have R5_9 := Lib.hid (R5.out.mp mp2)
  clear R5
  have R5 := R5_9
  clear R5_9
  have R6_9 := Lib.hid (R6.out.mp mp2)
  clear R6
  have R6 := R6_9
  clear R6_9
  have R8_9 := Lib.hid (R8.out.mp mp2)
  clear R8
  have R8 := R8_9
  clear R8_9
  have R9 := Lib.hid rw2
  have M9 := Lib.hid (M8.out.trans mp2)
  have PL9 := Lib.hid pl2
  have HX := Lib.hid hx9
  have HA := Lib.hid hA9
  clear pl mp ma pl2 rw2 mp2 hx9 hA9 PL8 M8
  go_wp2_with fail
  rw [← HX.out, ← HA.out]
  clear HX HA
  go_wp2_with fail
  refine (HL.out _).mono ?_; rintro e v ⟨rfl, rfl⟩
  go_wp2_with fail
  have dd := Tick_val x9 p b 8 5 1 g9 18446744073709551615 18446744073709551615 [s9] [] PL9.out (by omega) (by omega) (by decide) i9 i9d (by decide) (by decide)
  refine dd.mono ?_; rintro e x10 ⟨rfl, pl, mp⟩
  clear dd
  have R1_10 := Lib.hid (R1.out.mp mp)
  clear R1
  have R1 := R1_10
  clear R1_10
  have R2_10 := Lib.hid (R2.out.mp mp)
  clear R2
  have R2 := R2_10
  clear R2_10
  have R3_10 := Lib.hid (R3.out.mp mp)
  clear R3
  have R3 := R3_10
  clear R3_10
  have R4_10 := Lib.hid (R4.out.mp mp)
  clear R4
  have R4 := R4_10
  clear R4_10
  have R5_10 := Lib.hid (R5.out.mp mp)
  clear R5
  have R5 := R5_10
  clear R5_10
  have R6_10 := Lib.hid (R6.out.mp mp)
  clear R6
  have R6 := R6_10
  clear R6_10
  have R8_10 := Lib.hid (R8.out.mp mp)
  clear R8
  have R8 := R8_10
  clear R8_10
  have R9_10 := Lib.hid (R9.out.mp mp)
  clear R9
  have R9 := R9_10
  clear R9_10
  have M10 := Lib.hid (M9.out.trans mp)
  have PL10 := Lib.hid pl
  clear pl mp PL9 M9
  obtain ⟨a1, b1, c1⟩ := R1.out.cells
  simp only at a1 b1 c1
  obtain ⟨a2, b2, c2⟩ := R2.out.cells
  simp only at a2 b2 c2
  obtain ⟨a3, b3, c3⟩ := R3.out.cells
  simp only at a3 b3 c3
  obtain ⟨a4, b4, c4⟩ := R4.out.cells
  simp only at a4 b4 c4
  obtain ⟨a5, b5, c5⟩ := R5.out.cells
  simp only at a5 b5 c5
  obtain ⟨a6, b6, c6⟩ := R6.out.cells
  simp only at a6 b6 c6
  obtain ⟨a8, b8, c8⟩ := R8.out.cells
  simp only at a8 b8 c8
  obtain ⟨a9, b9, c9⟩ := R9.out.cells
  simp only at a9 b9 c9
  have NW := Lib.hid (fun W (h : Below x10.heap.size x10 W) => Now_val W p b 8 18446744073709551615 1 g9 (PL10.out.below h))
  have SE := Lib.hid (fun W (h : Below x10.heap.size x10 W) => sess_empty W p b 8 18446744073709551615 1 g9 (PL10.out.below h) (by omega) i9d)
  have ch1 := fun W => Changes_val ⟨0, ⟨#[]⟩, ⟨#[]⟩, 0⟩ W
  have ch2 := fun W => Changes_val ⟨1, ⟨#[]⟩, ⟨#[]⟩, 0⟩ W
  have va1 := fun W => Valid_val ⟨5, ⟨#[97]⟩, ⟨#[]⟩, 0⟩ W (rq_kind _ (by decide +kernel))
  rw [show chg (Rq.kind ⟨0, ⟨#[]⟩, ⟨#[]⟩, 0⟩) = true from by decide] at ch1
  rw [show chg (Rq.kind ⟨1, ⟨#[]⟩, ⟨#[]⟩, 0⟩) = false from by decide] at ch2
  rw [show validE ⟨5, ⟨#[97]⟩, ⟨#[]⟩, 0⟩ = 1 from by decide +kernel] at va1
  simp only [Rq.row] at ch1 ch2 va1
  have CH1 := Lib.hid ch1
  have CH2 := Lib.hid ch2
  have VA := Lib.hid va1
  clear ch1 ch2 va1
  go_wp2_with fail
  refine (NW.out _ (Below.refl _ _)).mono ?_; rintro e u1 ⟨rfl, h1⟩
  go_wp2_with fail
  refine (SE.out _ h1).mono ?_; rintro e u2 ⟨rfl, h2⟩
  have h12 := stepR h1 h2
  go_wp2_with fail
  refine (CH1.out _).mono ?_; rintro e u3 ⟨rfl, h3⟩
  go_wp2_with fail
  refine (CH2.out _).mono ?_; rintro e u4 ⟨rfl, h4⟩
  go_wp2_with fail
  refine (VA.out _).mono ?_; rintro e u5 ⟨rfl, h5⟩
  go_wp2_with fail
  go_ret
  have hb := stepR (stepR (stepR h12 h3) h4) h5
  exact ⟨rfl, BL0.out.trans ((M10.out.trans (Mp.of_below hb)).below (B := w.heap.size) (by have := HP.out; omega) (by have := HB.out; omega) BL0.out.size)⟩
end Go.Proofs.Ytmbidannodelfaa.G
