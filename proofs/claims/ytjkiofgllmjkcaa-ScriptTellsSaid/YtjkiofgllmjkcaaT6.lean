/- The document's reader: one act: kind 5. -/
import Derived.Test.YtjkiofgllmjkcaaT4
import Derived.Test.YtjkiofgllmjkcaaSa
import Derived.Test.YtjkiofgllmjkcaaGTail
import Derived.Deep.RegionHeld
import Derived.BigRegion
namespace Go.Proofs.Ytjkiofgllmjkcaa.G
open Go.RowKit Go.Proofs.Ytjkiofgllmjkcaa.WordPlain Go.Proofs.Ytjkiofgllmjkcaa.Loose
set_option linter.unusedVariables false
set_option linter.unusedSimpArgs false

theorem nm2_lt (s : ByteArray) (q : Rst) : nm s q 2 < 65536 := by
  have h : (tb s q 2).data.toList.length ≤ 2 := tb_size s q 2
  unfold nm wget
  have h2 := wgl_lt ((tb s q 2).data.toList.take 8)
  refine Nat.lt_of_lt_of_le h2 ?_
  rw [List.length_take]
  exact Nat.le_trans (Nat.pow_le_pow_right (by decide) (show min 8 _ ≤ 2 by omega)) (by decide : 256 ^ 2 ≤ 65536)
theorem ownsRow_leQ {w : World} {base base' size n : Nat} {e : TypeId} {v : Value} {xs : List Value} (h : w.ownsRow base e size v n xs) (hb : base' ≤ base) : w.ownsRow base' e size v n xs := by
  rcases h with ⟨h1, h2 | ⟨b, cap, cur, h3, h4, h5⟩⟩
  · exact ⟨h1, Or.inl h2⟩
  · exact ⟨h1, Or.inr ⟨b, cap, cur, h3, Nat.le_trans hb h4, h5⟩⟩
theorem alloc_sizeQ (w : World) (o : Obj) : (w.alloc o).heap.size = w.heap.size + 1 := by show (w.heap.push o).size = _; rw [Array.size_push]
theorem setCell_sizeQ (w : World) (a : Addr) (v : Value) : (w.setCell a v).heap.size = w.heap.size := by simp
theorem beqZ (x : Nat) : (x == 1) = ((x : Int) == 1) := by
  by_cases h : x = 1
  · rw [h]; rfl
  · rw [beq_eq_false_iff_ne.2 h, beq_eq_false_iff_ne.2 (by omega)]
theorem ract_cellsV {k rk p to pl : Int} {i v : ByteArray} {t n : Nat} {kv : Value} {W : World} {A : Nat} (h : W.heap[A]? = some (.cells #[.int .i64 k, .int .i64 rk, .string i, .string v, .float .f64 t, .int .i64 p, .int .u64 (n : Int), kv, .int .i64 to, .int .i64 pl] 47 (0, 0))) :
    W.cell? ⟨A, 0, none⟩ = some (.int .i64 k) ∧ W.cell? ⟨A, 1, none⟩ = some (.int .i64 rk) ∧ W.cell? ⟨A, 2, none⟩ = some (.string i) ∧ W.cell? ⟨A, 3, none⟩ = some (.string v) ∧ W.cell? ⟨A, 4, none⟩ = some (.float .f64 t) ∧ W.cell? ⟨A, 5, none⟩ = some (.int .i64 p) ∧ W.cell? ⟨A, 6, none⟩ = some (.int .u64 (n : Int)) ∧ W.cell? ⟨A, 7, none⟩ = some kv ∧ W.cell? ⟨A, 8, none⟩ = some (.int .i64 to) ∧ W.cell? ⟨A, 9, none⟩ = some (.int .i64 pl) :=
  ⟨(cell_of_row _ _ 0 _ _ _ h).trans rfl, (cell_of_row _ _ 1 _ _ _ h).trans rfl, (cell_of_row _ _ 2 _ _ _ h).trans rfl, (cell_of_row _ _ 3 _ _ _ h).trans rfl, (cell_of_row _ _ 4 _ _ _ h).trans rfl, (cell_of_row _ _ 5 _ _ _ h).trans rfl, (cell_of_row _ _ 6 _ _ _ h).trans rfl, (cell_of_row _ _ 7 _ _ _ h).trans rfl, (cell_of_row _ _ 8 _ _ _ h).trans rfl, (cell_of_row _ _ 9 _ _ _ h).trans rfl⟩
theorem mq_own {P B : Nat} {w w' : World} {e : TypeId} {size n : Nat} {v : Value} {xs : List Value} (hm : Mq P w w') (h : w.ownsRow B e size v n xs) (hP : P < B) : w'.ownsRow B e size v n xs :=
  World.ownsRow.kept h (row := some P) ⟨hm.os, hm.tape, hm.output, hm.size, fun i hi hn => hm.block i hi (fun x => hn (by rw [x]))⟩ (apartS (fun k hk x => by have := (own_geS h k hk).1; have := Option.some.inj x; omega))
theorem on_alloc {w w3 : World} {P A0 A1 : Nat} {s : ByteArray} {q : Rst} {row : Array Value} (h : On w P s A0 A1 q row w3) (o : Obj) : On w P s A0 A1 q row (w3.alloc o) := h.call (RdR.below h.rd (alloc_below w3 o)) (Mq.of_below (alloc_below w3 o)) h.le
theorem on_alloc_grown {w w3 w6 : World} {P A0 A1 B : Nat} {s : ByteArray} {q : Rst} {row : Array Value} {o : Obj} {r : Option Nat} (h : On w P s A0 A1 q row w3) (hg : (w3.alloc o).grownBy w6 r) (hr : ∀ k, some k = r → B ≤ k) (hl : A0 < B ∧ A1 < B ∧ P < B) : On w P s A0 A1 q row w6 := by
  have h1 := h.hp
  have h2 := h.a0
  have h3 := h.a1
  have b1 := alloc_below w3 o
  have b2 : ∀ i, i < w3.heap.size → i < B → w6.heap[i]? = w3.heap[i]? := fun i hi hB => (hg.block i (Nat.lt_of_lt_of_le hi b1.size) (fun e => by have := hr i e; omega)).trans (b1.block i hi)
  have hs := h.mq.size
  exact ⟨(b2 _ (lt_of_rowQ h.rd) hl.2.2).trans h.rd, (b2 _ (lt_of_rowQ h.row) hl.2.1).trans h.row, (b2 _ (lt_of_rowQ h.res) hl.1).trans h.res,
    ⟨hg.os.trans (b1.os.trans h.mq.os), hg.tape.trans (b1.tape.trans h.mq.tape), hg.output.trans (b1.output.trans h.mq.output), Nat.le_trans hs (Nat.le_trans b1.size hg.size), fun i hi hn => (b2 i (by omega) (by omega)).trans (h.mq.block i hi hn)⟩, h.a0, h.a1, h.ne, h.hp, h.le⟩
/-- a list of truths that is owned is one in memory -/
theorem Sb.of_ownB {B : Nat} {wr : World} {v : Value} {l : List Bool} (h : wr.ownsRow B 4 1 v l.length (l.map Value.bool)) : Sb wr v l := by
  rcases h.2 with ⟨rfl, h0⟩ | ⟨b, cap, cur, rfl, _, hh, hc, _, hs, ht⟩
  · exact Or.inl ⟨List.length_eq_zero_iff.1 h0, none, 0, rfl, fun _ => rfl⟩
  · by_cases h0 : l = []
    · subst h0
      exact Or.inl ⟨rfl, _, cap, rfl, by simp⟩
    · refine Or.inr ⟨h0, b, 0, cap, rfl, hc, fun i hi => ?_⟩
      rw [Nat.zero_add, cell_of_row _ _ i _ _ _ hh]
      have e1 : (cur.toList.take (l.length * 1))[i]? = some (Value.bool l[i]) := by rw [ht]; simp [hi]
      rw [List.getElem?_take_of_lt (by omega)] at e1
      simpa using e1
/-- owned truths stay under what the end of the act does -/
theorem own_on {W V : World} {P A0 A1 B n : Nat} {e : TypeId} {size : Nat} {kv : Value} {xs : List Value} (h : W.ownsRow B e size kv n xs) (hg : ∀ i, i < W.heap.size → i ≠ P → i ≠ A1 → i ≠ A0 → V.heap[i]? = W.heap[i]?) (hb : P < B ∧ A0 < B ∧ A1 < B) : V.ownsRow B e size kv n xs := by
  rcases h with ⟨h1, h2⟩
  refine ⟨h1, ?_⟩
  rcases h2 with h2 | ⟨b, cap, cur, rfl, hB, hh, hc, hx, hs, ht⟩
  · exact Or.inl h2
  · exact Or.inr ⟨b, cap, cur, rfl, hB, (hg _ (lt_of_rowQ hh) (by omega) (by omega) (by omega)).trans hh, hc, hx, hs, ht⟩

set_option maxRecDepth 100000 in
set_option maxHeartbeats 8000000 in
theorem one_5 (w : World) (P k : Nat) (s : ByteArray) (q : Rst) (h : RdR w P s q) (hq : q.p ≤ s.size) (hs : s.size ≤ 1000000) (hk : nm s q 1 = 5) (he : (mo s q 5).e = 0) :
    Calls Try.prog 32 #[.pointer (some ⟨P, 0, none⟩)] w fun e w' => ∃ vk, e = .returned (.agg (Ac.row { Ac.zero with kind := 5, n := nm s (mo s (tk s (bo s (nm s (mo s q 5) 1) (mo s (mo s q 5) 255) []).1 2) 128) 8, keep := (bo s (nm s (mo s q 5) 1) (mo s (mo s q 5) 255) []).2, torn := nm s (bo s (nm s (mo s q 5) 1) (mo s (mo s q 5) 255) []).1 2, pl := nm s (tk s (bo s (nm s (mo s q 5) 1) (mo s (mo s q 5) 255) []).1 2) 1 } vk)) ∧ w'.ownsRow w.heap.size 4 1 vk (bo s (nm s (mo s q 5) 1) (mo s (mo s q 5) 255) []).2.length ((bo s (nm s (mo s q 5) 1) (mo s (mo s q 5) 255) []).2.map Value.bool) ∧ RdR w' P s (tk s (mo s (tk s (bo s (nm s (mo s q 5) 1) (mo s (mo s q 5) 255) []).1 2) 128) 8) ∧ Mq P w w' := by
  simp only [Ac.row, Ac.zero, show ByteArray.empty = ⟨#[]⟩ from rfl]
  have hP : P < w.heap.size := lt_of_rowQ h
  have mv := most_val (w.alloc (.cells #[.int .i64 0, .int .i64 0, .string ⟨#[]⟩, .string ⟨#[]⟩, .float .f64 0, .int .i64 0, .int .u64 0, .slice none 0 0, .int .i64 0, .int .i64 0] 47)) P 5 s q (h.below (alloc_below w _)) hq hs
  rw [hk] at mv
  have mv' : Calls Try.prog 43 #[.pointer (some ⟨P, 0, none⟩), .int .i64 5] (w.alloc (.cells #[.int .i64 0, .int .i64 0, .string ⟨#[]⟩, .string ⟨#[]⟩, .float .f64 0, .int .i64 0, .int .u64 0, .slice none 0 0, .int .i64 0, .int .i64 0] 47)) fun e w' => e = .returned (.int .i64 5) ∧ RdR w' P s (mo s q 5) ∧ Mq P (w.alloc (.cells #[.int .i64 0, .int .i64 0, .string ⟨#[]⟩, .string ⟨#[]⟩, .float .f64 0, .int .i64 0, .int .u64 0, .slice none 0 0, .int .i64 0, .int .i64 0] 47)) w' := mv
  have MV := Lib.hid mv'
  have HS := Lib.hid hs
  have hql : (mo s q 5).p ≤ s.size := mo_leq hq
  obtain ⟨q1, hq1⟩ : ∃ x, x = mo s q 5 := ⟨_, rfl⟩
  rw [← hq1] at MV hql he ⊢
  obtain ⟨p1, e1⟩ := q1
  simp only at he ⊢
  have HQ1 := Lib.hid hq1
  have HQL := Lib.hid hql
  have HPP := Lib.hid hP
  clear mv mv' hq1 hql h hq hs hP hk
  obtain ⟨A0, hA0⟩ : ∃ A, A = w.heap.size := ⟨_, rfl⟩
  subst he
  obtain ⟨c, hc⟩ : ∃ x, x = nm s ⟨p1, 0⟩ 1 := ⟨_, rfl⟩
  rw [← hc]
  obtain ⟨q2, hq2⟩ : ∃ x, x = mo s ⟨p1, 0⟩ 255 := ⟨_, rfl⟩
  rw [← hq2]
  obtain ⟨bb, hbb⟩ : ∃ x, x = bo s c q2 [] := ⟨_, rfl⟩
  rw [← hbb]
  obtain ⟨qb, KB⟩ := bb
  simp only
  obtain ⟨x3, hx3⟩ : ∃ x, x = nm s qb 2 := ⟨_, rfl⟩
  rw [← hx3]
  obtain ⟨q3, hq3⟩ : ∃ x, x = tk s qb 2 := ⟨_, rfl⟩
  rw [← hq3]
  obtain ⟨x4, hx4⟩ : ∃ x, x = nm s q3 1 := ⟨_, rfl⟩
  rw [← hx4]
  obtain ⟨q4, hq4⟩ : ∃ x, x = mo s q3 128 := ⟨_, rfl⟩
  rw [← hq4]
  obtain ⟨x5, hx5⟩ : ∃ x, x = nm s q4 8 := ⟨_, rfl⟩
  rw [← hx5]
  obtain ⟨q5, hq5⟩ : ∃ x, x = tk s q4 8 := ⟨_, rfl⟩
  rw [← hq5]
  have hc6 : c < 256 := by rw [hc]; exact nm1_lt s _
  have hx36 : x3 < 65536 := by rw [hx3]; exact nm2_lt s _
  have HRc := Lib.hid hc
  have HQq2 := Lib.hid hq2
  have HBB := Lib.hid hbb
  have HRx3 := Lib.hid hx3
  have HQq3 := Lib.hid hq3
  have HRx4 := Lib.hid hx4
  have HQq4 := Lib.hid hq4
  have HRx5 := Lib.hid hx5
  have HQq5 := Lib.hid hq5
  have HC6 := Lib.hid hc6
  have HX36 := Lib.hid hx36
  clear hc hq2 hbb hx3 hq3 hx4 hq4 hx5 hq5 hc6 hx36
  go_enter Try.func32, Try.ntmps32
  go_wp2_with fail
  refine MV.out.mono ?_; rintro e w1 ⟨rfl, r1, m1⟩
  have on := On.start HPP.out r1 m1 HQL.out #[.int .i64 5, .int .i64 0, .string ⟨#[]⟩, .string ⟨#[]⟩, .float .f64 0, .int .i64 0, .int .u64 0, .slice none 0 0, .int .i64 0, .int .i64 0]
  have hn0 := on.2
  have on1 := on.1
  obtain ⟨c0, c1, c2, c3, c4, c5, c6, c7, c8, c9⟩ := ract_cells on1.row
  obtain ⟨d0, d1, d2⟩ := rd_cells on1.rd
  have ONE0 : Hid ((#[.int .i64 5, .int .i64 0, .string ⟨#[]⟩, .string ⟨#[]⟩, .float .f64 0, .int .i64 0, .int .u64 0, .slice none 0 0, .int .i64 0, .int .i64 0] : Array Value).all (·.oneCell') = true) := Lib.hid (by simp [Value.oneCell'])
  have N0 := Lib.hid hn0
  obtain ⟨A1, hA1⟩ : ∃ A, A = w1.heap.size := ⟨_, rfl⟩
  rw [← hA0, ← hA1] at on1
  obtain ⟨V1, hV1⟩ : ∃ V, V = (w1.alloc (.cells #[.int .i64 0, .int .i64 0, .string ⟨#[]⟩, .string ⟨#[]⟩, .float .f64 0, .int .i64 0, .int .u64 0, .slice none 0 0, .int .i64 0, .int .i64 0] 47)).setRow A1 #[.int .i64 5, .int .i64 0, .string ⟨#[]⟩, .string ⟨#[]⟩, .float .f64 0, .int .i64 0, .int .u64 0, .slice none 0 0, .int .i64 0, .int .i64 0] := ⟨_, rfl⟩
  rw [← hV1] at on1
  have ON1 := Lib.hid on1
  have HV1 := Lib.hid hV1
  have HA1 := Lib.hid hA1
  have HA0 := Lib.hid hA0
  clear r1 m1 on on1 hn0 hV1 hA1 hA0
  go_wp2_with (refine wpList_store_row rfl 47 _ _ rfl w1.heap.size #[.int .i64 5, .int .i64 0, .string ⟨#[]⟩, .string ⟨#[]⟩, .float .f64 0, .int .i64 0, .int .u64 0, .slice none 0 0, .int .i64 0, .int .i64 0] rfl rfl _ _ N0.out (by kernel_rfl) rfl ONE0.out ?_)
  rw [← HA1.out, ← HV1.out]
  simp only [← HA0.out]
  clear c0 c1 c2 c3 c4 c5 c6 c7 c8 c9 d0 d1 d2
  obtain ⟨c0, c1, c2, c3, c4, c5, c6, c7, c8, c9⟩ := ract_cells ON1.out.row
  obtain ⟨d0, d1, d2⟩ := rd_cells ON1.out.rd
  have cv := most_val V1 P 255 s ⟨p1, 0⟩ ON1.out.rd ON1.out.le HS.out
  rw [← HRc.out, ← HQq2.out] at cv
  have hl : (mo s ⟨p1, 0⟩ 255).p ≤ s.size := mo_leq ON1.out.le
  rw [← HQq2.out] at hl
  have CV := Lib.hid cv
  have HL := Lib.hid hl
  clear cv hl
  refine CV.out.mono ?_; rintro e w2 ⟨rfl, r1, m1⟩
  have ON2 := Lib.hid (ON1.out.call r1 m1 HL.out)
  clear r1 m1 c0 c1 c2 c3 c4 c5 c6 c7 c8 c9 d0 d1 d2 CV HL
  have LEB : Hid (w.heap.size ≤ w2.heap.size) := Lib.hid ON2.out.mq.size
  have LT : Hid (A0 < w2.heap.size ∧ A1 < w2.heap.size ∧ P < w2.heap.size) := Lib.hid ⟨lt_of_rowQ ON2.out.res, lt_of_rowQ ON2.out.row, lt_of_rowQ ON2.out.rd⟩
  go_wp2_with fail
  go_loopw [5] (fun i wr => ∃ (j : Nat) (q : Rst) (K : List Bool) (kv : Value), j ≤ c ∧ i = .int .i64 j ∧ On w P s A0 A1 q #[.int .i64 5, .int .i64 0, .string ⟨#[]⟩, .string ⟨#[]⟩, .float .f64 0, .int .i64 0, .int .u64 0, kv, .int .i64 0, .int .i64 0] wr ∧ wr.ownsRow w2.heap.size 4 1 kv K.length (K.map Value.bool) ∧ bo s (c - j) q K = (qb, KB) ∧ K.length ≤ j ∧ w2.heap.size ≤ wr.heap.size) (fun i _ => c - (intOf i).toNat)
  case atStart => exact ⟨0, q2, [], _, by omega, rfl, ON2.out, World.ownsRow_nil _ _ _ _, by rw [Nat.sub_zero]; exact HBB.out.symm, Nat.le_refl _, Nat.le_refl _⟩
  case round =>
    obtain ⟨j, q, K, kv, hj, rfl, hon, hown, hbo, hkl, hwr⟩ := hrel
    have HWR := Lib.hid hwr
    have ON3 := Lib.hid hon
    have OWN := Lib.hid hown
    have BO3 := Lib.hid hbo
    have HKL := Lib.hid hkl
    clear hon hown hbo hkl hwr
    obtain ⟨pq, eq⟩ := q
    obtain ⟨c0, c1, c2, c3, c4, c5, c6, c7, c8, c9⟩ := ract_cellsV ON3.out.row
    obtain ⟨d0, d1, d2⟩ := rd_cells ON3.out.rd
    by_cases hjc : j < c
    · have hkj : (j : Int) < (c : Int) := by omega
      have WJ : Hid (wrap64 ((j : Int) + 1) = ((j + 1 : Nat) : Int)) := Lib.hid (wr64 (j + 1) (by have := HC6.out; omega)).1
      by_cases he : eq = 0
      · subst he
        have STEP : Hid (bo s (c - (j + 1)) (mo s ⟨pq, 0⟩ 1) (K ++ [nm s ⟨pq, 0⟩ 1 == 1]) = (qb, KB)) := Lib.hid (by
          have h := BO3.out
          rw [show c - j = (c - (j + 1)) + 1 by omega] at h
          unfold bo at h
          rw [if_pos rfl] at h
          exact h)
        go_wp2_with fail
        clear c0 c1 c2 c3 c4 c5 c6 c7 c8 c9 d0 d1 d2
        refine wp_region_held (S := fun _ => True) (by kernel_rfl) ?_
        obtain ⟨Wd, hWd⟩ : ∃ x, x = { wr with drawn := wr.drawn + 1 } := ⟨_, rfl⟩
        have bd : Below wr.heap.size wr Wd := by rw [hWd]; exact ⟨rfl, rfl, rfl, Nat.le_refl _, fun _ _ => rfl⟩
        rw [← hWd]
        have ond := ON3.out.call (ON3.out.rd.below bd) (Mq.of_below bd) ON3.out.le
        have hod := World.ownsRow.kept OWN.out (grown_belowS bd) (apartS (by simp))
        have OND := Lib.hid ond
        have OWD := Lib.hid hod
        have cv := most_val Wd P 1 s ⟨pq, 0⟩ ond.rd ond.le HS.out
        obtain ⟨x, hx⟩ : ∃ x, x = nm s ⟨pq, 0⟩ 1 := ⟨_, rfl⟩
        obtain ⟨qn, hqn⟩ : ∃ x, x = mo s ⟨pq, 0⟩ 1 := ⟨_, rfl⟩
        have hl : (mo s ⟨pq, 0⟩ 1).p ≤ s.size := mo_leq ond.le
        rw [← hx, ← hqn] at cv STEP
        rw [← hqn] at hl
        have CV := Lib.hid cv
        have HL := Lib.hid hl
        obtain ⟨bx, hbx⟩ : ∃ t, t = (x == 1) := ⟨_, rfl⟩
        rw [← hbx] at STEP
        have hb1 : ((x : Int) == 1) = bx := by rw [hbx]; exact (beqZ x).symm
        have hS : (fun _ : World => True) Wd := trivial
        have z7 := (cell_of_row _ _ 7 _ _ _ ond.row).trans (show _ = some kv from rfl)
        have HWD : Hid (w2.heap.size ≤ Wd.heap.size) := Lib.hid (Nat.le_trans HWR.out bd.size)
        clear hWd bd ond hod cv hl hx hqn hbx
        refine wpAnyH_take (i := 0) (v := .pointer (some ⟨A1, 7, none⟩)) rfl (by kernel_rfl) ?_ ?_ (fun _ _ _ h => h) (Or.inl ⟨by first | kernel_rfl | rfl, ?_⟩) trivial ?_
        · kernel_rfl
        · kernel_rfl
        · intro V hV; go_simp
        refine wpAnyH_take (i := 2) (v := .pointer (some ⟨P, 0, none⟩)) rfl (by kernel_rfl) ?_ ?_ (fun _ _ _ h => h) (Or.inl ⟨by first | kernel_rfl | rfl, ?_⟩) trivial ?_
        · kernel_rfl
        · kernel_rfl
        · intro V hV; go_simp
        refine wpAnyH_ready (rs := [1, 3]) (by kernel_rfl) (by simp) ?_
        refine AllReadyH.cons rfl (fun K' hK => ?_) (AllReadyH.cons rfl (fun K' hK => ?_) AllReadyH.nil)
        · go_simp
          refine hK.out _ _ trivial (fun _ => ?_)
          clear hK K'
          refine wpAnyH_ready (rs := [3]) (by kernel_rfl) (by simp) ?_
          refine AllReadyH.cons rfl (fun K' hK => ?_) AllReadyH.nil
          go_simp
          refine CV.out.mono ?_; rintro e w3 ⟨rfl, r1, m1⟩
          have hm3 := m1.size
          have ON4 := Lib.hid (OND.out.call r1 m1 HL.out)
          have ow4 := mq_own m1 OWD.out (by have := LT.out; omega)
          have OW4 := Lib.hid ow4
          have z7 := (cell_of_row _ _ 7 _ _ _ ON4.out.row).trans (show _ = some kv from rfl)
          clear r1 m1 ow4 CV HL OND OWD
          have HW3 : Hid (w2.heap.size ≤ w3.heap.size) := Lib.hid (Nat.le_trans HWD.out hm3)
          (try go_simp)
          refine hK.out _ _ trivial (fun _ => ?_)
          clear hK K'
          refine wpAnyH_take (i := 4) (v := .bool bx) rfl (by kernel_rfl) ?_ ?_ (fun _ _ _ h => h) (Or.inl ⟨by first | kernel_rfl | rfl, ?_⟩) trivial ?_
          · kernel_rfl
          · kernel_rfl
          · intro V hV; go_simp
          refine wpAnyH_ready (rs := [5]) (by kernel_rfl) (by simp) ?_
          refine AllReadyH.cons rfl (fun K' hK => ?_) AllReadyH.nil
          go_simp
          refine hK.out _ _ trivial (fun _ => ?_)
          clear hK K'
          have HNW := Lib.hid (heap_alloc_new w3 (.cells #[.bool bx] 4))
          have z9 : (w3.alloc (.cells #[.bool bx] 4)).heap.size = w3.heap.size + 1 := alloc_sizeQ _ _
          obtain ⟨ii, i1, i2, i3, i4⟩ := bool_info
          have hs3 := HW3.out
          refine wpAnyH_ready (rs := [6]) (by kernel_rfl) (by simp) ?_
          refine AllReadyH.cons rfl (fun K' hK => ?_) AllReadyH.nil
          refine step_append_lies _ rfl _ _ 27 rfl w2.heap.size 4 ii (.bool false) 1 1 Try.underlying27 i1 i2 i3 i4 rfl (by decide) kv K.length (K.map Value.bool) rfl (World.ownsRow.alloc OW4.out _) ⟨w3.heap.size, 0, none⟩ 1 1 [.bool bx] rfl rfl (World.news_of_block HNW.out) (by simp [Value.oneCell']) (by decide) (by have := HKL.out; have := HC6.out; simp only [maxLen]; omega) (by have := HKL.out; have := HC6.out; omega) (by rw [z9]; omega) _ rfl ?_
          intro g cap w6 hown hg hw hlt5
          have on6 := on_alloc_grown (ON4.out) hg (fun k hk => (own_geS OW4.out k hk).1) LT.out
          have hge : w2.heap.size ≤ g := by rcases hw with hw | hw; exact (own_geS OW4.out g hw.symm).1; rw [hw, z9]; omega
          have ON6 := Lib.hid on6
          have z7 := (cell_of_row _ _ 7 _ _ _ on6.row).trans (show _ = some kv from rfl)
          have fz := frozen_of_row w6 A1 7 _ _ on6.row
          refine hK.out _ _ trivial (fun _ => ?_)
          clear hK K' on6
          have on7 := ON6.out.set (j := 7) (v := .slice (some ⟨g, 0, none⟩) (K.length + 1) cap) (show _ = #[.int .i64 5, .int .i64 0, .string ⟨#[]⟩, .string ⟨#[]⟩, .float .f64 0, .int .i64 0, .int .u64 0, .slice (some ⟨g, 0, none⟩) (K.length + 1) cap, .int .i64 0, .int .i64 0] from rfl)
          have own7 := hown.kept (grown_setS w6 ⟨A1, 7, none⟩ (.slice (some ⟨g, 0, none⟩) (K.length + 1) cap)) (Or.inr (by show some g ≠ some A1; intro e; have := Option.some.inj e; have := LT.out; omega))
          have own8 : (w6.setCell ⟨A1, 7, none⟩ (.slice (some ⟨g, 0, none⟩) (K.length + 1) cap)).ownsRow w2.heap.size 4 1 (.slice (some ⟨g, 0, none⟩) (K.length + 1) cap) (K ++ [bx]).length ((K ++ [bx]).map Value.bool) := by rw [List.length_append, List.map_append]; exact own7
          have ON7 := Lib.hid on7
          have OW8 := Lib.hid own8
          have HW7 : Hid (w2.heap.size ≤ w6.heap.size) := Lib.hid (Nat.le_trans (Nat.le_trans hs3 (by rw [z9]; omega)) hg.size)
          clear on7 own7 own8 hown hg hw hlt5 hge
          refine wpAnyH_ready (rs := [7]) (by kernel_rfl) (by simp) ?_
          refine AllReadyH.cons rfl (fun K' hK => ?_) AllReadyH.nil
          go_simp
          refine hK.out _ _ trivial (fun _ => ?_)
          clear hK K'
          refine wpAnyH_ready (rs := [8]) (by kernel_rfl) (by simp) ?_
          refine AllReadyH.cons rfl (fun K' hK => ?_) AllReadyH.nil
          go_simp
          refine hK.out _ _ trivial (fun _ => ?_)
          clear hK K' z7 fz
          refine wpAnyH_done (by kernel_rfl) ?_ _
          go_wp2_with fail
          go_roundw
          case rel => exact ⟨j + 1, qn, K ++ [bx], _, by omega, by rw [WJ.out], ON7.out, OW8.out, STEP.out, by rw [List.length_append]; have := HKL.out; simp only [List.length_cons, List.length_nil]; omega, by rw [setCell_sizeQ]; exact HW7.out⟩
          case measure => rw [WJ.out]; simp only [intOf, Int.toNat_natCast]; omega
        · go_simp
          refine CV.out.mono ?_; rintro e w3 ⟨rfl, r1, m1⟩
          have hm3 := m1.size
          have ON4 := Lib.hid (OND.out.call r1 m1 HL.out)
          have ow4 := mq_own m1 OWD.out (by have := LT.out; omega)
          have OW4 := Lib.hid ow4
          have z7 := (cell_of_row _ _ 7 _ _ _ ON4.out.row).trans (show _ = some kv from rfl)
          clear r1 m1 ow4 CV HL OND OWD
          have HW3 : Hid (w2.heap.size ≤ w3.heap.size) := Lib.hid (Nat.le_trans HWD.out hm3)
          (try go_simp)
          refine hK.out _ _ trivial (fun _ => ?_)
          clear hK K'
          refine wpAnyH_take (i := 4) (v := .bool bx) rfl (by kernel_rfl) ?_ ?_ (fun _ _ _ h => h) (Or.inl ⟨by first | kernel_rfl | rfl, ?_⟩) trivial ?_
          · kernel_rfl
          · kernel_rfl
          · intro V hV; go_simp
          refine wpAnyH_ready (rs := [1, 5]) (by kernel_rfl) (by simp) ?_
          refine AllReadyH.cons rfl (fun K' hK => ?_) (AllReadyH.cons rfl (fun K' hK => ?_) AllReadyH.nil)
          · go_simp
            refine hK.out _ _ trivial (fun _ => ?_)
            clear hK K'
            refine wpAnyH_ready (rs := [5]) (by kernel_rfl) (by simp) ?_
            refine AllReadyH.cons rfl (fun K' hK => ?_) AllReadyH.nil
            go_simp
            refine hK.out _ _ trivial (fun _ => ?_)
            clear hK K'
            have HNW := Lib.hid (heap_alloc_new w3 (.cells #[.bool bx] 4))
            have z9 : (w3.alloc (.cells #[.bool bx] 4)).heap.size = w3.heap.size + 1 := alloc_sizeQ _ _
            obtain ⟨ii, i1, i2, i3, i4⟩ := bool_info
            have hs3 := HW3.out
            refine wpAnyH_ready (rs := [6]) (by kernel_rfl) (by simp) ?_
            refine AllReadyH.cons rfl (fun K' hK => ?_) AllReadyH.nil
            refine step_append_lies _ rfl _ _ 27 rfl w2.heap.size 4 ii (.bool false) 1 1 Try.underlying27 i1 i2 i3 i4 rfl (by decide) kv K.length (K.map Value.bool) rfl (World.ownsRow.alloc OW4.out _) ⟨w3.heap.size, 0, none⟩ 1 1 [.bool bx] rfl rfl (World.news_of_block HNW.out) (by simp [Value.oneCell']) (by decide) (by have := HKL.out; have := HC6.out; simp only [maxLen]; omega) (by have := HKL.out; have := HC6.out; omega) (by rw [z9]; omega) _ rfl ?_
            intro g cap w6 hown hg hw hlt5
            have on6 := on_alloc_grown (ON4.out) hg (fun k hk => (own_geS OW4.out k hk).1) LT.out
            have hge : w2.heap.size ≤ g := by rcases hw with hw | hw; exact (own_geS OW4.out g hw.symm).1; rw [hw, z9]; omega
            have ON6 := Lib.hid on6
            have z7 := (cell_of_row _ _ 7 _ _ _ on6.row).trans (show _ = some kv from rfl)
            have fz := frozen_of_row w6 A1 7 _ _ on6.row
            refine hK.out _ _ trivial (fun _ => ?_)
            clear hK K' on6
            have on7 := ON6.out.set (j := 7) (v := .slice (some ⟨g, 0, none⟩) (K.length + 1) cap) (show _ = #[.int .i64 5, .int .i64 0, .string ⟨#[]⟩, .string ⟨#[]⟩, .float .f64 0, .int .i64 0, .int .u64 0, .slice (some ⟨g, 0, none⟩) (K.length + 1) cap, .int .i64 0, .int .i64 0] from rfl)
            have own7 := hown.kept (grown_setS w6 ⟨A1, 7, none⟩ (.slice (some ⟨g, 0, none⟩) (K.length + 1) cap)) (Or.inr (by show some g ≠ some A1; intro e; have := Option.some.inj e; have := LT.out; omega))
            have own8 : (w6.setCell ⟨A1, 7, none⟩ (.slice (some ⟨g, 0, none⟩) (K.length + 1) cap)).ownsRow w2.heap.size 4 1 (.slice (some ⟨g, 0, none⟩) (K.length + 1) cap) (K ++ [bx]).length ((K ++ [bx]).map Value.bool) := by rw [List.length_append, List.map_append]; exact own7
            have ON7 := Lib.hid on7
            have OW8 := Lib.hid own8
            have HW7 : Hid (w2.heap.size ≤ w6.heap.size) := Lib.hid (Nat.le_trans (Nat.le_trans hs3 (by rw [z9]; omega)) hg.size)
            clear on7 own7 own8 hown hg hw hlt5 hge
            refine wpAnyH_ready (rs := [7]) (by kernel_rfl) (by simp) ?_
            refine AllReadyH.cons rfl (fun K' hK => ?_) AllReadyH.nil
            go_simp
            refine hK.out _ _ trivial (fun _ => ?_)
            clear hK K'
            refine wpAnyH_ready (rs := [8]) (by kernel_rfl) (by simp) ?_
            refine AllReadyH.cons rfl (fun K' hK => ?_) AllReadyH.nil
            go_simp
            refine hK.out _ _ trivial (fun _ => ?_)
            clear hK K' z7 fz
            refine wpAnyH_done (by kernel_rfl) ?_ _
            go_wp2_with fail
            go_roundw
            case rel => exact ⟨j + 1, qn, K ++ [bx], _, by omega, by rw [WJ.out], ON7.out, OW8.out, STEP.out, by rw [List.length_append]; have := HKL.out; simp only [List.length_cons, List.length_nil]; omega, by rw [setCell_sizeQ]; exact HW7.out⟩
            case measure => rw [WJ.out]; simp only [intOf, Int.toNat_natCast]; omega
          · go_simp
            refine hK.out _ _ trivial (fun _ => ?_)
            clear hK K'
            have z7 := (cell_of_row _ _ 7 _ _ _ (on_alloc ON4.out (.cells #[.bool bx] 4)).row).trans (show _ = some kv from rfl)
            refine wpAnyH_ready (rs := [1]) (by kernel_rfl) (by simp) ?_
            refine AllReadyH.cons rfl (fun K' hK => ?_) AllReadyH.nil
            go_simp
            refine hK.out _ _ trivial (fun _ => ?_)
            clear hK K'
            have HNW := Lib.hid (heap_alloc_new w3 (.cells #[.bool bx] 4))
            have z9 : (w3.alloc (.cells #[.bool bx] 4)).heap.size = w3.heap.size + 1 := alloc_sizeQ _ _
            obtain ⟨ii, i1, i2, i3, i4⟩ := bool_info
            have hs3 := HW3.out
            refine wpAnyH_ready (rs := [6]) (by kernel_rfl) (by simp) ?_
            refine AllReadyH.cons rfl (fun K' hK => ?_) AllReadyH.nil
            refine step_append_lies _ rfl _ _ 27 rfl w2.heap.size 4 ii (.bool false) 1 1 Try.underlying27 i1 i2 i3 i4 rfl (by decide) kv K.length (K.map Value.bool) rfl (World.ownsRow.alloc OW4.out _) ⟨w3.heap.size, 0, none⟩ 1 1 [.bool bx] rfl rfl (World.news_of_block HNW.out) (by simp [Value.oneCell']) (by decide) (by have := HKL.out; have := HC6.out; simp only [maxLen]; omega) (by have := HKL.out; have := HC6.out; omega) (by rw [z9]; omega) _ rfl ?_
            intro g cap w6 hown hg hw hlt5
            have on6 := on_alloc_grown (ON4.out) hg (fun k hk => (own_geS OW4.out k hk).1) LT.out
            have hge : w2.heap.size ≤ g := by rcases hw with hw | hw; exact (own_geS OW4.out g hw.symm).1; rw [hw, z9]; omega
            have ON6 := Lib.hid on6
            have z7 := (cell_of_row _ _ 7 _ _ _ on6.row).trans (show _ = some kv from rfl)
            have fz := frozen_of_row w6 A1 7 _ _ on6.row
            refine hK.out _ _ trivial (fun _ => ?_)
            clear hK K' on6
            have on7 := ON6.out.set (j := 7) (v := .slice (some ⟨g, 0, none⟩) (K.length + 1) cap) (show _ = #[.int .i64 5, .int .i64 0, .string ⟨#[]⟩, .string ⟨#[]⟩, .float .f64 0, .int .i64 0, .int .u64 0, .slice (some ⟨g, 0, none⟩) (K.length + 1) cap, .int .i64 0, .int .i64 0] from rfl)
            have own7 := hown.kept (grown_setS w6 ⟨A1, 7, none⟩ (.slice (some ⟨g, 0, none⟩) (K.length + 1) cap)) (Or.inr (by show some g ≠ some A1; intro e; have := Option.some.inj e; have := LT.out; omega))
            have own8 : (w6.setCell ⟨A1, 7, none⟩ (.slice (some ⟨g, 0, none⟩) (K.length + 1) cap)).ownsRow w2.heap.size 4 1 (.slice (some ⟨g, 0, none⟩) (K.length + 1) cap) (K ++ [bx]).length ((K ++ [bx]).map Value.bool) := by rw [List.length_append, List.map_append]; exact own7
            have ON7 := Lib.hid on7
            have OW8 := Lib.hid own8
            have HW7 : Hid (w2.heap.size ≤ w6.heap.size) := Lib.hid (Nat.le_trans (Nat.le_trans hs3 (by rw [z9]; omega)) hg.size)
            clear on7 own7 own8 hown hg hw hlt5 hge
            refine wpAnyH_ready (rs := [7]) (by kernel_rfl) (by simp) ?_
            refine AllReadyH.cons rfl (fun K' hK => ?_) AllReadyH.nil
            go_simp
            refine hK.out _ _ trivial (fun _ => ?_)
            clear hK K'
            refine wpAnyH_ready (rs := [8]) (by kernel_rfl) (by simp) ?_
            refine AllReadyH.cons rfl (fun K' hK => ?_) AllReadyH.nil
            go_simp
            refine hK.out _ _ trivial (fun _ => ?_)
            clear hK K' z7 fz
            refine wpAnyH_done (by kernel_rfl) ?_ _
            go_wp2_with fail
            go_roundw
            case rel => exact ⟨j + 1, qn, K ++ [bx], _, by omega, by rw [WJ.out], ON7.out, OW8.out, STEP.out, by rw [List.length_append]; have := HKL.out; simp only [List.length_cons, List.length_nil]; omega, by rw [setCell_sizeQ]; exact HW7.out⟩
            case measure => rw [WJ.out]; simp only [intOf, Int.toNat_natCast]; omega
      · have g1 : (eq == 0) = false := beq_eq_false_iff_ne.2 he
        have g2 : (eq = 0) = False := eq_false he
        have E1 : Hid ((⟨pq, eq⟩ : Rst) = qb ∧ K = KB) := Lib.hid (by
          have h := BO3.out
          rw [bo_bad s _ _ _ he] at h
          injection h with h1 h2
          exact ⟨h1, h2⟩)
        clear he
        have onb : On w P s A0 A1 qb #[.int .i64 5, .int .i64 0, .string ⟨#[]⟩, .string ⟨#[]⟩, .float .f64 0, .int .i64 0, .int .u64 0, kv, .int .i64 0, .int .i64 0] wr := by have h := ON3.out; rw [E1.out.1] at h; exact h
        have ON8 := Lib.hid onb
        have OWN8 := Lib.hid OWN.out
        have a1 := (wr64 x3 (by have := HX36.out; omega)).1
        have a2 := (wr64 x3 (by have := HX36.out; omega)).2
        clear onb
        go_wp2_with fail
        clear c0 c1 c2 c3 c4 c5 c6 c7 c8 c9 d0 d1 d2
        obtain ⟨c0, c1, c2, c3, c4, c5, c6, c7, c8, c9⟩ := ract_cellsV ON8.out.row
        obtain ⟨d0, d1, d2⟩ := rd_cells ON8.out.rd
        have cv := number_val wr P 2 s qb ON8.out.rd ON8.out.le HS.out
        rw [← HRx3.out, ← HQq3.out] at cv
        have hl : (tk s qb 2).p ≤ s.size := tk_leq ON8.out.le
        rw [← HQq3.out] at hl
        have CV := Lib.hid cv
        have HL := Lib.hid hl
        clear cv hl
        refine CV.out.mono ?_; rintro e w9 ⟨rfl, r1, m1⟩
        have ON9 := Lib.hid (ON8.out.call r1 m1 HL.out)
        have OWN9 := Lib.hid (mq_own m1 OWN8.out LT.out.2.2)
        clear r1 m1 c0 c1 c2 c3 c4 c5 c6 c7 c8 c9 d0 d1 d2 CV HL
        obtain ⟨c0, c1, c2, c3, c4, c5, c6, c7, c8, c9⟩ := ract_cellsV ON9.out.row
        obtain ⟨d0, d1, d2⟩ := rd_cells ON9.out.rd
        have fz := frozen_of_row w9 A1 8 _ _ ON9.out.row
        have ON10 := Lib.hid (ON9.out.set (j := 8) (v := .int .i64 (x3 : Int)) (show _ = #[.int .i64 5, .int .i64 0, .string ⟨#[]⟩, .string ⟨#[]⟩, .float .f64 0, .int .i64 0, .int .u64 0, kv, .int .i64 (x3 : Int), .int .i64 0] from rfl))
        obtain ⟨V10, hV⟩ : ∃ V, V = w9.setCell ⟨A1, 8, none⟩ (.int .i64 (x3 : Int)) := ⟨_, rfl⟩
        rw [← hV] at ON10
        have OWN10 := Lib.hid (own_on OWN9.out (V := V10) (fun i _ _ h _ => by rw [hV]; exact heap_setCell_other _ _ _ _ h) ⟨LT.out.2.2, LT.out.1, LT.out.2.1⟩)
        have HV := Lib.hid hV
        clear hV
        go_wp2_with fail
        rw [← HV.out]
        clear c0 c1 c2 c3 c4 c5 c6 c7 c8 c9 d0 d1 d2 fz HV
        obtain ⟨c0, c1, c2, c3, c4, c5, c6, c7, c8, c9⟩ := ract_cellsV ON10.out.row
        obtain ⟨d0, d1, d2⟩ := rd_cells ON10.out.rd
        have cv := most_val V10 P 128 s q3 ON10.out.rd ON10.out.le HS.out
        rw [← HRx4.out, ← HQq4.out] at cv
        have hl : (mo s q3 128).p ≤ s.size := mo_leq ON10.out.le
        rw [← HQq4.out] at hl
        have CV := Lib.hid cv
        have HL := Lib.hid hl
        clear cv hl
        refine CV.out.mono ?_; rintro e w11 ⟨rfl, r1, m1⟩
        have ON11 := Lib.hid (ON10.out.call r1 m1 HL.out)
        have OWN11 := Lib.hid (mq_own m1 OWN10.out LT.out.2.2)
        clear r1 m1 c0 c1 c2 c3 c4 c5 c6 c7 c8 c9 d0 d1 d2 CV HL
        obtain ⟨c0, c1, c2, c3, c4, c5, c6, c7, c8, c9⟩ := ract_cellsV ON11.out.row
        obtain ⟨d0, d1, d2⟩ := rd_cells ON11.out.rd
        have fz := frozen_of_row w11 A1 9 _ _ ON11.out.row
        have ON12 := Lib.hid (ON11.out.set (j := 9) (v := .int .i64 (x4 : Int)) (show _ = #[.int .i64 5, .int .i64 0, .string ⟨#[]⟩, .string ⟨#[]⟩, .float .f64 0, .int .i64 0, .int .u64 0, kv, .int .i64 (x3 : Int), .int .i64 (x4 : Int)] from rfl))
        obtain ⟨V12, hV⟩ : ∃ V, V = w11.setCell ⟨A1, 9, none⟩ (.int .i64 (x4 : Int)) := ⟨_, rfl⟩
        rw [← hV] at ON12
        have OWN12 := Lib.hid (own_on OWN11.out (V := V12) (fun i _ _ h _ => by rw [hV]; exact heap_setCell_other _ _ _ _ h) ⟨LT.out.2.2, LT.out.1, LT.out.2.1⟩)
        have HV := Lib.hid hV
        clear hV
        go_wp2_with fail
        rw [← HV.out]
        clear c0 c1 c2 c3 c4 c5 c6 c7 c8 c9 d0 d1 d2 fz HV
        obtain ⟨c0, c1, c2, c3, c4, c5, c6, c7, c8, c9⟩ := ract_cellsV ON12.out.row
        obtain ⟨d0, d1, d2⟩ := rd_cells ON12.out.rd
        have cv := number_val V12 P 8 s q4 ON12.out.rd ON12.out.le HS.out
        rw [← HRx5.out, ← HQq5.out] at cv
        have hl : (tk s q4 8).p ≤ s.size := tk_leq ON12.out.le
        rw [← HQq5.out] at hl
        have CV := Lib.hid cv
        have HL := Lib.hid hl
        clear cv hl
        refine CV.out.mono ?_; rintro e w13 ⟨rfl, r1, m1⟩
        have ON13 := Lib.hid (ON12.out.call r1 m1 HL.out)
        have OWN13 := Lib.hid (mq_own m1 OWN12.out LT.out.2.2)
        clear r1 m1 c0 c1 c2 c3 c4 c5 c6 c7 c8 c9 d0 d1 d2 CV HL
        obtain ⟨c0, c1, c2, c3, c4, c5, c6, c7, c8, c9⟩ := ract_cellsV ON13.out.row
        obtain ⟨d0, d1, d2⟩ := rd_cells ON13.out.rd
        have fz := frozen_of_row w13 A1 6 _ _ ON13.out.row
        have ON14 := Lib.hid (ON13.out.set (j := 6) (v := .int .u64 (x5 : Int)) (show _ = #[.int .i64 5, .int .i64 0, .string ⟨#[]⟩, .string ⟨#[]⟩, .float .f64 0, .int .i64 0, .int .u64 (x5 : Int), kv, .int .i64 (x3 : Int), .int .i64 (x4 : Int)] from rfl))
        obtain ⟨V14, hV⟩ : ∃ V, V = w13.setCell ⟨A1, 6, none⟩ (.int .u64 (x5 : Int)) := ⟨_, rfl⟩
        rw [← hV] at ON14
        have OWN14 := Lib.hid (own_on OWN13.out (V := V14) (fun i _ _ h _ => by rw [hV]; exact heap_setCell_other _ _ _ _ h) ⟨LT.out.2.2, LT.out.1, LT.out.2.1⟩)
        have HV := Lib.hid hV
        clear hV
        clear c0 c1 c2 c3 c4 c5 c6 c7 c8 c9 d0 d1 d2
        obtain ⟨c0, c1, c2, c3, c4, c5, c6, c7, c8, c9⟩ := ract_cellsV ON13.out.row
        obtain ⟨f0, f1, f2, f3, f4, f5, f6, f7, f8, f9⟩ := ract_cellsV ON14.out.row
        rw [HV.out] at f0 f1 f2 f3 f4 f5 f6 f7 f8 f9
        have ONEz : Hid ((#[.int .i64 5, .int .i64 0, .string ⟨#[]⟩, .string ⟨#[]⟩, .float .f64 0, .int .i64 0, .int .u64 (x5 : Int), kv, .int .i64 (x3 : Int), .int .i64 (x4 : Int)] : Array Value).all (·.oneCell') = true) := Lib.hid (by rcases OWN8.out.2 with ⟨h, _⟩ | ⟨b, cap, cur, h, _⟩ <;> rw [h] <;> simp [Value.oneCell'])
        have hrow := setRow_heap V14 A0 _ #[.int .i64 5, .int .i64 0, .string ⟨#[]⟩, .string ⟨#[]⟩, .float .f64 0, .int .i64 0, .int .u64 (x5 : Int), kv, .int .i64 (x3 : Int), .int .i64 (x4 : Int)] _ _ ON14.out.res
        have HROW := Lib.hid hrow
        clear hrow
        rw [HV.out] at HROW ON14 OWN14
        go_wp2_with (refine wpList_store_row rfl 47 _ _ rfl A0 #[.int .i64 5, .int .i64 0, .string ⟨#[]⟩, .string ⟨#[]⟩, .float .f64 0, .int .i64 0, .int .u64 (x5 : Int), kv, .int .i64 (x3 : Int), .int .i64 (x4 : Int)] rfl rfl _ _ ON14.out.res (by kernel_rfl) rfl ONEz.out ?_)
        refine bodyPost_ret (v := .agg #[.int .i64 5, .int .i64 0, .string ⟨#[]⟩, .string ⟨#[]⟩, .float .f64 0, .int .i64 0, .int .u64 (x5 : Int), kv, .int .i64 (x3 : Int), .int .i64 (x4 : Int)]) ?_ rfl ⟨_, rfl, (by rw [← E1.out.2]; exact ownsRow_leQ (own_on OWN14.out (fun i _ _ _ h => setRow_otherQ _ _ _ _ h) ⟨LT.out.2.2, LT.out.1, LT.out.2.1⟩) LEB.out), (ON14.out.fin _).1, (ON14.out.fin _).2⟩
        exact results_cell_row (p := 2) (ty := 47) rfl _ _ A0 47 _ (0, 0) _ rfl HROW.out Try.underlying47 rfl (by kernel_rfl)
    · have hkj : ¬ (j : Int) < (c : Int) := by omega
      have E1 : Hid ((⟨pq, eq⟩ : Rst) = qb ∧ K = KB) := Lib.hid (by
        have h := BO3.out
        rw [show c - j = 0 by omega] at h
        unfold bo at h
        injection h with h1 h2
        exact ⟨h1, h2⟩)
      have onb : On w P s A0 A1 qb #[.int .i64 5, .int .i64 0, .string ⟨#[]⟩, .string ⟨#[]⟩, .float .f64 0, .int .i64 0, .int .u64 0, kv, .int .i64 0, .int .i64 0] wr := by have h := ON3.out; rw [E1.out.1] at h; exact h
      have ON8 := Lib.hid onb
      have OWN8 := Lib.hid OWN.out
      have a1 := (wr64 x3 (by have := HX36.out; omega)).1
      have a2 := (wr64 x3 (by have := HX36.out; omega)).2
      clear onb
      go_wp2_with fail
      clear c0 c1 c2 c3 c4 c5 c6 c7 c8 c9 d0 d1 d2
      obtain ⟨c0, c1, c2, c3, c4, c5, c6, c7, c8, c9⟩ := ract_cellsV ON8.out.row
      obtain ⟨d0, d1, d2⟩ := rd_cells ON8.out.rd
      have cv := number_val wr P 2 s qb ON8.out.rd ON8.out.le HS.out
      rw [← HRx3.out, ← HQq3.out] at cv
      have hl : (tk s qb 2).p ≤ s.size := tk_leq ON8.out.le
      rw [← HQq3.out] at hl
      have CV := Lib.hid cv
      have HL := Lib.hid hl
      clear cv hl
      refine CV.out.mono ?_; rintro e w9 ⟨rfl, r1, m1⟩
      have ON9 := Lib.hid (ON8.out.call r1 m1 HL.out)
      have OWN9 := Lib.hid (mq_own m1 OWN8.out LT.out.2.2)
      clear r1 m1 c0 c1 c2 c3 c4 c5 c6 c7 c8 c9 d0 d1 d2 CV HL
      obtain ⟨c0, c1, c2, c3, c4, c5, c6, c7, c8, c9⟩ := ract_cellsV ON9.out.row
      obtain ⟨d0, d1, d2⟩ := rd_cells ON9.out.rd
      have fz := frozen_of_row w9 A1 8 _ _ ON9.out.row
      have ON10 := Lib.hid (ON9.out.set (j := 8) (v := .int .i64 (x3 : Int)) (show _ = #[.int .i64 5, .int .i64 0, .string ⟨#[]⟩, .string ⟨#[]⟩, .float .f64 0, .int .i64 0, .int .u64 0, kv, .int .i64 (x3 : Int), .int .i64 0] from rfl))
      obtain ⟨V10, hV⟩ : ∃ V, V = w9.setCell ⟨A1, 8, none⟩ (.int .i64 (x3 : Int)) := ⟨_, rfl⟩
      rw [← hV] at ON10
      have OWN10 := Lib.hid (own_on OWN9.out (V := V10) (fun i _ _ h _ => by rw [hV]; exact heap_setCell_other _ _ _ _ h) ⟨LT.out.2.2, LT.out.1, LT.out.2.1⟩)
      have HV := Lib.hid hV
      clear hV
      go_wp2_with fail
      rw [← HV.out]
      clear c0 c1 c2 c3 c4 c5 c6 c7 c8 c9 d0 d1 d2 fz HV
      obtain ⟨c0, c1, c2, c3, c4, c5, c6, c7, c8, c9⟩ := ract_cellsV ON10.out.row
      obtain ⟨d0, d1, d2⟩ := rd_cells ON10.out.rd
      have cv := most_val V10 P 128 s q3 ON10.out.rd ON10.out.le HS.out
      rw [← HRx4.out, ← HQq4.out] at cv
      have hl : (mo s q3 128).p ≤ s.size := mo_leq ON10.out.le
      rw [← HQq4.out] at hl
      have CV := Lib.hid cv
      have HL := Lib.hid hl
      clear cv hl
      refine CV.out.mono ?_; rintro e w11 ⟨rfl, r1, m1⟩
      have ON11 := Lib.hid (ON10.out.call r1 m1 HL.out)
      have OWN11 := Lib.hid (mq_own m1 OWN10.out LT.out.2.2)
      clear r1 m1 c0 c1 c2 c3 c4 c5 c6 c7 c8 c9 d0 d1 d2 CV HL
      obtain ⟨c0, c1, c2, c3, c4, c5, c6, c7, c8, c9⟩ := ract_cellsV ON11.out.row
      obtain ⟨d0, d1, d2⟩ := rd_cells ON11.out.rd
      have fz := frozen_of_row w11 A1 9 _ _ ON11.out.row
      have ON12 := Lib.hid (ON11.out.set (j := 9) (v := .int .i64 (x4 : Int)) (show _ = #[.int .i64 5, .int .i64 0, .string ⟨#[]⟩, .string ⟨#[]⟩, .float .f64 0, .int .i64 0, .int .u64 0, kv, .int .i64 (x3 : Int), .int .i64 (x4 : Int)] from rfl))
      obtain ⟨V12, hV⟩ : ∃ V, V = w11.setCell ⟨A1, 9, none⟩ (.int .i64 (x4 : Int)) := ⟨_, rfl⟩
      rw [← hV] at ON12
      have OWN12 := Lib.hid (own_on OWN11.out (V := V12) (fun i _ _ h _ => by rw [hV]; exact heap_setCell_other _ _ _ _ h) ⟨LT.out.2.2, LT.out.1, LT.out.2.1⟩)
      have HV := Lib.hid hV
      clear hV
      go_wp2_with fail
      rw [← HV.out]
      clear c0 c1 c2 c3 c4 c5 c6 c7 c8 c9 d0 d1 d2 fz HV
      obtain ⟨c0, c1, c2, c3, c4, c5, c6, c7, c8, c9⟩ := ract_cellsV ON12.out.row
      obtain ⟨d0, d1, d2⟩ := rd_cells ON12.out.rd
      have cv := number_val V12 P 8 s q4 ON12.out.rd ON12.out.le HS.out
      rw [← HRx5.out, ← HQq5.out] at cv
      have hl : (tk s q4 8).p ≤ s.size := tk_leq ON12.out.le
      rw [← HQq5.out] at hl
      have CV := Lib.hid cv
      have HL := Lib.hid hl
      clear cv hl
      refine CV.out.mono ?_; rintro e w13 ⟨rfl, r1, m1⟩
      have ON13 := Lib.hid (ON12.out.call r1 m1 HL.out)
      have OWN13 := Lib.hid (mq_own m1 OWN12.out LT.out.2.2)
      clear r1 m1 c0 c1 c2 c3 c4 c5 c6 c7 c8 c9 d0 d1 d2 CV HL
      obtain ⟨c0, c1, c2, c3, c4, c5, c6, c7, c8, c9⟩ := ract_cellsV ON13.out.row
      obtain ⟨d0, d1, d2⟩ := rd_cells ON13.out.rd
      have fz := frozen_of_row w13 A1 6 _ _ ON13.out.row
      have ON14 := Lib.hid (ON13.out.set (j := 6) (v := .int .u64 (x5 : Int)) (show _ = #[.int .i64 5, .int .i64 0, .string ⟨#[]⟩, .string ⟨#[]⟩, .float .f64 0, .int .i64 0, .int .u64 (x5 : Int), kv, .int .i64 (x3 : Int), .int .i64 (x4 : Int)] from rfl))
      obtain ⟨V14, hV⟩ : ∃ V, V = w13.setCell ⟨A1, 6, none⟩ (.int .u64 (x5 : Int)) := ⟨_, rfl⟩
      rw [← hV] at ON14
      have OWN14 := Lib.hid (own_on OWN13.out (V := V14) (fun i _ _ h _ => by rw [hV]; exact heap_setCell_other _ _ _ _ h) ⟨LT.out.2.2, LT.out.1, LT.out.2.1⟩)
      have HV := Lib.hid hV
      clear hV
      clear c0 c1 c2 c3 c4 c5 c6 c7 c8 c9 d0 d1 d2
      obtain ⟨c0, c1, c2, c3, c4, c5, c6, c7, c8, c9⟩ := ract_cellsV ON13.out.row
      obtain ⟨f0, f1, f2, f3, f4, f5, f6, f7, f8, f9⟩ := ract_cellsV ON14.out.row
      rw [HV.out] at f0 f1 f2 f3 f4 f5 f6 f7 f8 f9
      have ONEz : Hid ((#[.int .i64 5, .int .i64 0, .string ⟨#[]⟩, .string ⟨#[]⟩, .float .f64 0, .int .i64 0, .int .u64 (x5 : Int), kv, .int .i64 (x3 : Int), .int .i64 (x4 : Int)] : Array Value).all (·.oneCell') = true) := Lib.hid (by rcases OWN8.out.2 with ⟨h, _⟩ | ⟨b, cap, cur, h, _⟩ <;> rw [h] <;> simp [Value.oneCell'])
      have hrow := setRow_heap V14 A0 _ #[.int .i64 5, .int .i64 0, .string ⟨#[]⟩, .string ⟨#[]⟩, .float .f64 0, .int .i64 0, .int .u64 (x5 : Int), kv, .int .i64 (x3 : Int), .int .i64 (x4 : Int)] _ _ ON14.out.res
      have HROW := Lib.hid hrow
      clear hrow
      rw [HV.out] at HROW ON14 OWN14
      go_wp2_with (refine wpList_store_row rfl 47 _ _ rfl A0 #[.int .i64 5, .int .i64 0, .string ⟨#[]⟩, .string ⟨#[]⟩, .float .f64 0, .int .i64 0, .int .u64 (x5 : Int), kv, .int .i64 (x3 : Int), .int .i64 (x4 : Int)] rfl rfl _ _ ON14.out.res (by kernel_rfl) rfl ONEz.out ?_)
      refine bodyPost_ret (v := .agg #[.int .i64 5, .int .i64 0, .string ⟨#[]⟩, .string ⟨#[]⟩, .float .f64 0, .int .i64 0, .int .u64 (x5 : Int), kv, .int .i64 (x3 : Int), .int .i64 (x4 : Int)]) ?_ rfl ⟨_, rfl, (by rw [← E1.out.2]; exact ownsRow_leQ (own_on OWN14.out (fun i _ _ _ h => setRow_otherQ _ _ _ _ h) ⟨LT.out.2.2, LT.out.1, LT.out.2.1⟩) LEB.out), (ON14.out.fin _).1, (ON14.out.fin _).2⟩
      exact results_cell_row (p := 2) (ty := 47) rfl _ _ A0 47 _ (0, 0) _ rfl HROW.out Try.underlying47 rfl (by kernel_rfl)
end Go.Proofs.Ytjkiofgllmjkcaa.G
