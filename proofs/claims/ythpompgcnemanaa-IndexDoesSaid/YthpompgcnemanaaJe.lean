/- The document's index: Add. -/
import Derived.Test.YthpompgcnemanaaJd
import Derived.Test.YthpompgcnemanaaGFast
import Derived.Test.YthpompgcnemanaaGTail
import Derived.BigQuiet
import Derived.Deep.RegionHeld
namespace Go.Proofs.Ythpompgcnemanaa.G
open Go.RowKit Go.Maps Go.Proofs Go.Proofs.Ythpompgcnemanaa.WordPlain Go.Proofs.Ythpompgcnemanaa.Loose
set_option linter.unusedVariables false
set_option linter.unusedSimpArgs false

theorem en_at {Q : Plc → Option ByteArray} {S : List (Plc × ByteArray)} (hE : En Q S) {p : Plc} : (∀ j (hj : j < S.length), S[j].1 ≠ p) → Q p = none := fun h => by
  cases hq : Q p with
  | none => rfl
  | some s =>
    obtain ⟨j, hj, he⟩ := List.mem_iff_getElem.1 ((hE.2 p s).2 hq)
    exact absurd (by rw [he]) (h j hj)
theorem En.snoc {Q : Plc → Option ByteArray} {S : List (Plc × ByteArray)} (h : En Q S) {p : Plc} (hp : Q p = none) (i : ByteArray) : En (updM Q p (some i)) (S ++ [(p, i)]) := by
  refine ⟨?_, fun x s => ?_⟩
  · rw [List.map_append, List.nodup_append]
    refine ⟨h.1, by simp, fun a ha b hb e => ?_⟩
    simp only [List.map_cons, List.map_nil, List.mem_singleton] at hb
    obtain ⟨q, hq, rfl⟩ := List.mem_map.1 ha
    have := (h.2 q.1 q.2).1 hq
    rw [e, hb, hp] at this
    cases this
  · rw [List.mem_append, List.mem_singleton]
    by_cases hx : x = p
    · subst hx
      rw [updM_same]
      constructor
      · rintro (hm | hm)
        · have := (h.2 _ _).1 hm; rw [hp] at this; cases this
        · cases hm; rfl
      · intro hh; cases hh; exact Or.inr rfl
    · rw [updM_other hx, ← h.2 x s]
      constructor
      · rintro (hm | hm)
        · exact hm
        · cases hm; exact absurd rfl hx
      · exact Or.inl
section
variable {w w' : World} {R : Nat} {vS vL : Value} {S : List (Plc × ByteArray)} {L : List (ByteArray × Ent)}
/-- a stand is put behind those that stand -/
theorem RI.push (h : RI w R vS vL S L) {W V : World} {g m c : Nat} {S' : List (Plc × ByteArray)} (hb : Below w.heap.size w W) (hg : W.grownBy V vS.ownBlock) (ho : OwnL (R + 1) 89 3 encSt V (.slice (some ⟨g, 0, none⟩) m c) S') (hw : vS.ownBlock = some g ∨ w.heap.size ≤ g) :
    RI (V.setCell ⟨R, 0, none⟩ (.slice (some ⟨g, 0, none⟩) m c)) R (.slice (some ⟨g, 0, none⟩) m c) vL S' L ∧ Fw (fun i => i = R ∨ some i = vS.ownBlock) w (V.setCell ⟨R, 0, none⟩ (.slice (some ⟨g, 0, none⟩) m c)) := by
  have h' := h.below hb
  have hR := lt_of_rowR h.row
  have hne : some R ≠ vS.ownBlock := fun e => by have := (own_geR h.st R e).1; omega
  have r1 : V.heap[R]? = some (.cells #[vS, vL] 29 (0, 0)) := (hg.block R (lt_of_rowR h'.row) hne).trans h'.row
  have hl : OwnL (R + 1) 86 7 encNw V vL L := own_same h'.ls fun k hk => hg.block k (own_geR h'.ls k hk).2 (fun e => h.ap k e hk)
  refine ⟨⟨?_, own_cell ho (by omega), own_cell hl (by omega), fun k hk hk2 => ?_⟩, ?_⟩
  · rw [heap_setCell_same _ _ _ _ _ _ r1]; rfl
  · have e := own_blk hk
    subst e
    rcases hw with hw | hw
    · exact h.ap _ hw.symm hk2
    · have := (own_geR h.ls _ hk2).2; omega
  · exact ((Fw.of_below hb).trans ⟨hg.os, hg.tape, hg.output, hg.size, fun i hi hn => hg.block i hi (fun e => hn (Or.inr e))⟩).cell (Or.inl rfl)
theorem RI.push_row (h : RI w R vS vL S L) {W V : World} (hb : Below w.heap.size w W) (hg : W.grownBy V vS.ownBlock) : V.heap[R]? = some (.cells #[vS, vL] 29 (0, 0)) :=
  (hg.block R (lt_of_rowR (h.below hb).row) (fun e => by have := (own_geR h.st R e).1; omega)).trans (h.below hb).row
/-- the boxes of a record and a place -/
structure Bq (row : Array Value) (p1 p2 : Int) (A : Nat) (V : World) : Prop where
  a : V.heap[A]? = some (.cells row (69 : Nat) (0, 0))
  b : V.heap[A + 1]? = some (.cells #[.int .i64 p1, .int .i64 p2] (36 : Nat) (0, 0))
theorem Bq.below {row : Array Value} {p1 p2 : Int} {A : Nat} {V V' : World} (h : Bq row p1 p2 A V) (hb : Below V.heap.size V V') : Bq row p1 p2 A V' := ⟨(hb.block _ (lt_of_rowR h.a)).trans h.a, (hb.block _ (lt_of_rowR h.b)).trans h.b⟩
theorem Bq.cell {row : Array Value} {p1 p2 : Int} {A R f : Nat} {u : Value} {V : World} (h : Bq row p1 p2 A V) (hR : R < A) : Bq row p1 p2 A (V.setCell ⟨R, f, none⟩ u) := ⟨(heap_setCell_other _ _ _ _ (by show A ≠ R; omega)).trans h.a, (heap_setCell_other _ _ _ _ (by show A + 1 ≠ R; omega)).trans h.b⟩
end
set_option maxRecDepth 100000 in
set_option maxHeartbeats 8000000 in
theorem rAdd_val (w : World) (R : Nat) (vS vL : Value) (S : List (Plc × ByteArray)) (L : List (ByteArray × Ent)) (N : ByteArray → Option Ent) (Q : Plc → Option ByteArray) (r : Rec) (p1 p2 : Int) (h : RI w R vS vL S L) (hl : L.length ≤ 999999) (hs : S.length ≤ 999999) (hL : NL N L) (hE : En Q S) (hi : r.id.size ≤ 1000000) (hv : r.va.size ≤ 1000000) :
    Calls Try.prog 25 #[.pointer (some ⟨R, 0, none⟩), .agg #[.int .u64 (r.lsn : Int), .int .u32 (r.ep : Int), .int .i64 r.kind, .int .u64 (r.ver : Int), .int .u64 (r.dl : Int), .string r.id, .string r.va], .agg #[.int .i64 p1, .int .i64 p2]] w fun e w' => e = .returned (.bool (addB N Q r (p1, p2))) ∧ (∃ lS lL S' L', RI w' R lS lL S' L' ∧ NL (addN N Q r (p1, p2)) L' ∧ En (addQ Q r (p1, p2)) S' ∧ S'.length ≤ S.length + 1 ∧ L'.length ≤ L.length + 1) ∧ Fw (fun i => i = R ∨ some i = vS.ownBlock) w w' := by
  obtain ⟨aB, hab⟩ : ∃ b, b = addB N Q r (p1, p2) := ⟨_, rfl⟩
  obtain ⟨aN, han⟩ : ∃ b, b = addN N Q r (p1, p2) := ⟨_, rfl⟩
  obtain ⟨aQ, haq⟩ : ∃ b, b = addQ Q r (p1, p2) := ⟨_, rfl⟩
  rw [← hab, ← han, ← haq]
  obtain ⟨rl, re, rk, rv, rd, ri, ra⟩ := r
  simp only at hi hv ⊢
  have HAB := Lib.hid hab
  have HAN := Lib.hid han
  have HAQ := Lib.hid haq
  obtain ⟨w1, hw1⟩ : ∃ W, W = (w.alloc (.cells #[.int .u64 (rl : Int), .int .u32 (re : Int), .int .i64 rk, .int .u64 (rv : Int), .int .u64 (rd : Int), .string ri, .string ra] (69 : Nat))).alloc (.cells #[.int .i64 p1, .int .i64 p2] (36 : Nat)) := ⟨_, rfl⟩
  have b01 : Below w.heap.size w w1 := by rw [hw1]; exact ((Below.refl _ _).alloc (Nat.le_refl _) _).alloc (by rw [alloc_sizeR]; omega) _
  have rows := two_newR w (.cells #[.int .u64 (rl : Int), .int .u32 (re : Int), .int .i64 rk, .int .u64 (rv : Int), .int .u64 (rd : Int), .string ri, .string ra] (69 : Nat)) (.cells #[.int .i64 p1, .int .i64 p2] (36 : Nat))
  rw [← hw1] at rows
  have ROWA : Hid (w1.heap[w.heap.size]? = some (.cells #[.int .u64 (rl : Int), .int .u32 (re : Int), .int .i64 rk, .int .u64 (rv : Int), .int .u64 (rd : Int), .string ri, .string ra] (69 : Nat) (0, 0))) := Lib.hid rows.1
  have ROWB : Hid (w1.heap[w.heap.size + 1]? = some (.cells #[.int .i64 p1, .int .i64 p2] (36 : Nat) (0, 0))) := Lib.hid rows.2
  have AV := Lib.hid (rAt_val w1 R vS vL S L p1 p2 (h.below b01) (by omega))
  have HRL := Lib.hid (lt_of_rowR h.row)
  have RI0 := Lib.hid h
  have RLW := Lib.hid (Nat.lt_of_lt_of_le (lt_of_rowR h.row) (stepR b01 (Below.refl _ _)).size)
  have RI1 := Lib.hid (h.below b01)
  have B01 := Lib.hid b01
  have HW1 := Lib.hid hw1
  have HNL := Lib.hid hL
  have HQE := Lib.hid hE
  clear hab han haq rows b01 hw1 h hL hE
  go_enter Try.func25, Try.ntmps25
  go_wp2_with fail
  rw [← HW1.out]
  refine AV.out.mono ?_; rintro e w2 ⟨hat, hb⟩
  have RI2 := Lib.hid (RI1.out.below hb)
  have B12 := Lib.hid hb
  have B02 := Lib.hid (stepR B01.out hb)
  clear hb AV HW1 RI1
  rcases hat with ⟨rfl, hno⟩ | ⟨j, hj, rfl, hjp⟩
  · have hq := en_at HQE.out hno
    clear hno
    by_cases hk1 : rk = 1
    · subst hk1
      have hT : takes Q (⟨rl, re, 1, rv, rd, ri, ra⟩ : Rec) (p1, p2) := ⟨hq, Or.inl rfl⟩
      have HTT := Lib.hid hT
      have HQ := HAQ.out.trans (if_pos hT)
      subst HQ
      have enS : En (updM Q (p1, p2) (some ri)) (S ++ [(((p1, p2) : Plc), ri)]) := HQE.out.snoc hq ri
      have ENS := Lib.hid enS
      obtain ⟨oS, cS, hvS⟩ := (own_lr (k := 3) (enc := encSt) (fun _ => rfl) RI2.out.st).form
      obtain ⟨nS, hnS⟩ : ∃ z, z = S.length := ⟨_, rfl⟩
      rw [← hnS] at hvS
      subst hvS
      have HNS := Lib.hid hnS
      have hnS9 : nS ≤ 999999 := by omega
      have b2 := show w2.cell? ⟨w.heap.size, 2, none⟩ = some (.int .i64 1) from (cell_of_row _ _ 2 _ _ _ ((B12.out.block _ (lt_of_rowR ROWA.out)).trans ROWA.out)).trans rfl
      clear enS hnS hT hq
      go_wp2_with fail
      clear b2
      (try go_frame)
      refine wp_region_held (S := fun V => Bq #[.int .u64 (rl : Int), .int .u32 (re : Int), .int .i64 1, .int .u64 (rv : Int), .int .u64 (rd : Int), .string ri, .string ra] p1 p2 w.heap.size V) (by kernel_rfl) ?_
      obtain ⟨Wd, hWd⟩ : ∃ x, x = { w2 with drawn := w2.drawn + 1 } := ⟨_, rfl⟩
      have bd : Below w2.heap.size w2 Wd := by rw [hWd]; exact ⟨rfl, rfl, rfl, Nat.le_refl _, fun _ _ => rfl⟩
      rw [← hWd]
      have hS0 : Bq #[.int .u64 (rl : Int), .int .u32 (re : Int), .int .i64 1, .int .u64 (rv : Int), .int .u64 (rd : Int), .string ri, .string ra] p1 p2 w.heap.size Wd := ⟨((stepR B12.out bd).block _ (lt_of_rowR ROWA.out)).trans ROWA.out, ((stepR B12.out bd).block _ (lt_of_rowR ROWB.out)).trans ROWB.out⟩
      have RId := Lib.hid (RI2.out.below bd)
      have BD := Lib.hid (stepR B02.out bd)
      have a5 : ∀ V, Bq #[.int .u64 (rl : Int), .int .u32 (re : Int), .int .i64 1, .int .u64 (rv : Int), .int .u64 (rd : Int), .string ri, .string ra] p1 p2 w.heap.size V → V.cell? ⟨w.heap.size, 5, none⟩ = some (.string ri) := fun V hV => (cell_of_row _ _ 5 _ _ _ hV.a).trans rfl
      have q0 : ∀ V, Bq #[.int .u64 (rl : Int), .int .u32 (re : Int), .int .i64 1, .int .u64 (rv : Int), .int .u64 (rd : Int), .string ri, .string ra] p1 p2 w.heap.size V → V.cell? ⟨w.heap.size + 1, 0, none⟩ = some (.int .i64 p1) := fun V hV => (cell_of_row _ _ 0 _ _ _ hV.b).trans rfl
      have q1 : ∀ V, Bq #[.int .u64 (rl : Int), .int .u32 (re : Int), .int .i64 1, .int .u64 (rv : Int), .int .u64 (rd : Int), .string ri, .string ra] p1 p2 w.heap.size V → V.cell? ⟨w.heap.size + 1, 1, none⟩ = some (.int .i64 p2) := fun V hV => (cell_of_row _ _ 1 _ _ _ hV.b).trans rfl
      clear hWd bd
      refine wpAnyH_take (i := 0) (v := .pointer (some ⟨R, 0, none⟩)) rfl (by kernel_rfl) ?_ ?_ (fun _ _ _ h => h) (Or.inl ⟨by first | kernel_rfl | rfl, ?_⟩) hS0 ?_
      · kernel_rfl
      · kernel_rfl
      · intro V hV; go_simp
      refine wpAnyH_take (i := 1) (v := .pointer (some ⟨R, 0, none⟩)) rfl (by kernel_rfl) ?_ ?_ (fun _ _ _ h => h) (Or.inl ⟨by first | kernel_rfl | rfl, ?_⟩) hS0 ?_
      · kernel_rfl
      · kernel_rfl
      · intro V hV; go_simp
      refine wpAnyH_take (i := 2) (v := .pointer (some ⟨R, 0, none⟩)) rfl (by kernel_rfl) ?_ ?_ (fun _ _ _ h => h) (Or.inl ⟨by first | kernel_rfl | rfl, ?_⟩) hS0 ?_
      · kernel_rfl
      · kernel_rfl
      · intro V hV; go_simp
      refine wpAnyH_take (i := 3) (v := .pointer (some ⟨R, 0, none⟩)) rfl (by kernel_rfl) ?_ ?_ (fun _ _ _ h => h) (Or.inl ⟨by first | kernel_rfl | rfl, ?_⟩) hS0 ?_
      · kernel_rfl
      · kernel_rfl
      · intro V hV; go_simp
      refine wpAnyH_take (i := 5) (v := .pointer (some ⟨w.heap.size, 5, none⟩)) rfl (by kernel_rfl) ?_ ?_ (fun _ _ _ h => h) (Or.inl ⟨by first | kernel_rfl | rfl, ?_⟩) hS0 ?_
      · kernel_rfl
      · kernel_rfl
      · intro V hV; go_simp
      refine wpAnyH_take (i := 6) (v := .string ri) rfl (by kernel_rfl) ?_ ?_ (fun _ _ _ h => h) (Or.inl ⟨by first | kernel_rfl | rfl, ?_⟩) hS0 ?_
      · kernel_rfl
      · kernel_rfl
      · intro V hV; go_simp
      refine wpAnyH_take (i := 7) (v := .agg #[.int .i64 p1, .int .i64 p2]) rfl (by kernel_rfl) ?_ ?_ (fun _ _ _ h => h) (Or.inl ⟨by first | kernel_rfl | rfl, ?_⟩) hS0 ?_
      · kernel_rfl
      · kernel_rfl
      · intro V hV; go_simp
      refine wpAnyH_take (i := 8) (v := .agg #[.string ri, .int .i64 p1, .int .i64 p2]) rfl (by kernel_rfl) ?_ ?_ (fun _ _ _ h => h) (Or.inl ⟨by first | kernel_rfl | rfl, ?_⟩) hS0 ?_
      · kernel_rfl
      · kernel_rfl
      · intro V hV; go_simp
      have own0 : Wd.ownsRow (R + 1) 89 3 (.slice oS nS cS) S.length (S.flatMap encSt) := RId.out.st
      rw [← HNS.out] at own0
      have OWN := Lib.hid own0
      have c0 := (cell_of_row _ _ 0 _ _ _ RId.out.row).trans (show _ = some (.slice oS nS cS) from rfl)
      have bal : Below w.heap.size w (Wd.alloc (.cells #[.string ri, .int .i64 p1, .int .i64 p2] (89 : Nat))) := BD.out.alloc BD.out.size _
      have hSa : Bq #[.int .u64 (rl : Int), .int .u32 (re : Int), .int .i64 1, .int .u64 (rv : Int), .int .u64 (rd : Int), .string ri, .string ra] p1 p2 w.heap.size (Wd.alloc (.cells #[.string ri, .int .i64 p1, .int .i64 p2] (89 : Nat))) := hS0.below ((Below.refl _ _).alloc (Nat.le_refl _) _)
      have c0a : (Wd.alloc (.cells #[.string ri, .int .i64 p1, .int .i64 p2] (89 : Nat))).cell? ⟨R, 0, none⟩ = some (.slice oS nS cS) := (((Below.refl Wd.heap.size Wd).alloc (Nat.le_refl _) (.cells #[.string ri, .int .i64 p1, .int .i64 p2] (89 : Nat))).cell (p := ⟨R, 0, none⟩) (lt_of_cellR c0)).trans c0
      have BAL := Lib.hid bal
      have HSA := Lib.hid hSa
      clear own0 bal a5 q0 q1
      have HNW := Lib.hid (heap_alloc_new Wd (.cells #[.string ri, .int .i64 p1, .int .i64 p2] (89 : Nat)))
      have z9 := alloc_sizeR Wd (.cells #[.string ri, .int .i64 p1, .int .i64 p2] (89 : Nat))
      obtain ⟨ii, zz, i1, i2, i3, i4, i5⟩ := st_info
      refine wpAnyH_ready (rs := [4, 9]) (by kernel_rfl) (by simp) ?_
      refine AllReadyH.cons rfl (fun K' hK => ?_) (AllReadyH.cons rfl (fun K' hK => ?_) AllReadyH.nil)
      · go_simp
        refine hK.out _ _ hS0 (fun _ => ?_)
        clear hK K'
        refine wpAnyH_ready (rs := [9]) (by kernel_rfl) (by simp) ?_
        refine AllReadyH.cons rfl (fun K' hK => ?_) AllReadyH.nil
        go_simp
        refine hK.out _ _ HSA.out (fun _ => ?_)
        clear hK K'
        refine wpAnyH_ready (rs := [10]) (by kernel_rfl) (by simp) ?_
        refine AllReadyH.cons rfl (fun K' hK => ?_) AllReadyH.nil
        refine step_append_lies _ rfl _ _ 26 rfl (R + 1) 89 ii zz 3 32 Try.underlying26 i1 i2 i3 i4 i5 (by decide) (.slice oS nS cS) nS (S.flatMap encSt) rfl (World.ownsRow.alloc OWN.out _) ⟨Wd.heap.size, 0, none⟩ 1 1 [.string ri, .int .i64 p1, .int .i64 p2] rfl rfl (World.news_of_block HNW.out) (by simp [Value.oneCell']) (by decide) (by simp only [maxLen]; omega) (by omega) (by have := HRL.out; have := BD.out.size; rw [z9]; omega) _ rfl ?_
        intro g cap w5 hown hg hw hlt5
        have own5 : OwnL (R + 1) 89 3 encSt w5 (.slice (some ⟨g, 0, none⟩) (nS + 1) cap) (S ++ [(((p1, p2) : Plc), ri)]) := by show World.ownsRow _ _ _ _ _ (S ++ [(((p1, p2) : Plc), ri)]).length ((S ++ [(((p1, p2) : Plc), ri)]).flatMap encSt); rw [flat_snoc, List.length_append, ← HNS.out]; exact hown
        have hpush := RId.out.push ((Below.refl Wd.heap.size Wd).alloc (Nat.le_refl _) (.cells #[.string ri, .int .i64 p1, .int .i64 p2] (89 : Nat))) hg own5 (by rcases hw with hw | hw; exact Or.inl hw; exact Or.inr (by rw [hw, z9]; omega))
        have hrow5 := RId.out.push_row ((Below.refl Wd.heap.size Wd).alloc (Nat.le_refl _) (.cells #[.string ri, .int .i64 p1, .int .i64 p2] (89 : Nat))) hg
        have hnown : ∀ k, w.heap.size ≤ k → some k ≠ (Value.slice oS nS cS).ownBlock := fun k hk e => by have h1 := (own_geR RI0.out.st k e).2; omega
        have hS5 : Bq #[.int .u64 (rl : Int), .int .u32 (re : Int), .int .i64 1, .int .u64 (rv : Int), .int .u64 (rd : Int), .string ri, .string ra] p1 p2 w.heap.size w5 := ⟨(hg.block _ (lt_of_rowR HSA.out.a) (hnown _ (Nat.le_refl _))).trans HSA.out.a, (hg.block _ (lt_of_rowR HSA.out.b) (hnown _ (Nat.le_succ _))).trans HSA.out.b⟩
        have c05 := (cell_of_row _ _ 0 _ _ _ hrow5).trans (show _ = some (.slice oS nS cS) from rfl)
        have fz5 := frozen_of_row _ _ 0 _ _ hrow5
        have HPUSH := Lib.hid hpush
        have hS6 : Bq #[.int .u64 (rl : Int), .int .u32 (re : Int), .int .i64 1, .int .u64 (rv : Int), .int .u64 (rd : Int), .string ri, .string ra] p1 p2 w.heap.size (w5.setCell ⟨R, 0, none⟩ (.slice (some ⟨g, 0, none⟩) (nS + 1) cap)) := hS5.cell HRL.out
        refine hK.out _ _ hS5 (fun hS5 => ?_)
        clear hK K' hown hg hw hlt5 own5 hpush hrow5 hnown c0 c0a
        refine wpAnyH_take (i := 11) (v := .pointer (some ⟨R, 0, none⟩)) rfl (by kernel_rfl) ?_ ?_ (fun _ _ _ h => h) (Or.inl ⟨by first | kernel_rfl | rfl, ?_⟩) hS5 ?_
        · kernel_rfl
        · kernel_rfl
        · intro V hV; go_simp
        refine wpAnyH_take (i := 12) (v := .pointer (some ⟨R, 0, none⟩)) rfl (by kernel_rfl) ?_ ?_ (fun _ _ _ h => h) (Or.inl ⟨by first | kernel_rfl | rfl, ?_⟩) hS5 ?_
        · kernel_rfl
        · kernel_rfl
        · intro V hV; go_simp
        refine wpAnyH_ready (rs := [13]) (by kernel_rfl) (by simp) ?_
        refine AllReadyH.cons rfl (fun K' hK => ?_) AllReadyH.nil
        go_simp
        refine hK.out _ _ hS6 (fun hS6 => ?_)
        clear hK K' c05 fz5 hS5
        obtain ⟨V, hV⟩ : ∃ W, W = w5.setCell ⟨R, 0, none⟩ (.slice (some ⟨g, 0, none⟩) (nS + 1) cap) := ⟨_, rfl⟩
        rw [← hV] at HPUSH hS6 ⊢
        have RI5 := Lib.hid HPUSH.out.1
        have RA5 := Lib.hid hS6.a
        have RB5 := Lib.hid hS6.b
        have BRV := Lib.hid ((Fw.of_below BD.out).trans (HPUSH.out.2))
        have RLV := Lib.hid (lt_of_rowR RI5.out.row)
        clear hV HPUSH hS6
        refine wpAnyH_done (by kernel_rfl) ?_ _
        have f5 := show V.cell? ⟨w.heap.size, 5, none⟩ = some (.string ri) from (cell_of_row _ _ 5 _ _ _ (((Below.refl V.heap.size V).block _ (lt_of_rowR RA5.out)).trans RA5.out)).trans rfl
        have FV := Lib.hid (rfind_val V R _ vL _ L ri RI5.out (by omega))
        go_wp2_with fail
        refine FV.out.mono ?_; rintro e w6 ⟨⟨k, rfl, hk⟩, hb⟩
        have RI6 := Lib.hid (RI5.out.below hb)
        have BV6 := Lib.hid hb
        have hk2 := find_en HNL.out.en hk
        clear hk hb FV f5
        rcases hk2 with ⟨rfl, hn⟩ | ⟨j, e, hj, rfl, hje, hn⟩
        · go_wp2_with fail
          have hnw : news N (⟨rl, re, 1, rv, rd, ri, ra⟩ : Rec) := fun e he => by rw [show N ri = none from hn] at he; cases he
          have SV := Lib.hid (fun W hW => rset_val W R _ _ _ L ri (⟨rv, rd, true, 31 + (ri.size : Int) + (ra.size : Int), p1, p2⟩ : Ent) (RI6.out.below hW) (by omega))
          have HB := HAB.out.trans (show addB N Q (⟨rl, re, 1, rv, rd, ri, ra⟩ : Rec) (p1, p2) = true from decide_eq_true ⟨HTT.out, hnw⟩)
          have HN := HAN.out.trans (show addN N Q (⟨rl, re, 1, rv, rd, ri, ra⟩ : Rec) (p1, p2) = updM N ri (some (⟨rv, rd, true, 31 + (ri.size : Int) + (ra.size : Int), p1, p2⟩ : Ent)) from if_pos ⟨HTT.out, hnw⟩)
          subst HB HN
          clear hnw hn
          refine Loose.wp_region_quiet_fast (by kernel_rfl) (by kernel_rfl) ?_
          (try simp only [List.append_eq, List.cons_append, List.nil_append])
          repeat (go_big_quiet_step (fail))
          refine wpQuiet_nil ?_
          intro _ hw'
          obtain ⟨⟨dq, osq⟩, hw''⟩ := hw'
          subst hw''
          have bQ := below_regrown w6 dq osq
          obtain ⟨w7, hw7⟩ : ∃ W, W = Go.Sort.grow (Go.redrawn w6 dq) osq := ⟨_, rfl⟩
          rw [← hw7] at bQ
          rw [← hw7]
          have SV7 := Lib.hid (SV.out w7 bQ)
          have B67 := Lib.hid (stepR BV6.out bQ)
          have d2 := show w7.cell? ⟨w.heap.size, 2, none⟩ = some (.int .i64 1) from (cell_of_row _ _ 2 _ _ _ ((B67.out.block _ (lt_of_rowR RA5.out)).trans RA5.out)).trans rfl
          have d3 := show w7.cell? ⟨w.heap.size, 3, none⟩ = some (.int .u64 (rv : Int)) from (cell_of_row _ _ 3 _ _ _ ((B67.out.block _ (lt_of_rowR RA5.out)).trans RA5.out)).trans rfl
          have d4 := show w7.cell? ⟨w.heap.size, 4, none⟩ = some (.int .u64 (rd : Int)) from (cell_of_row _ _ 4 _ _ _ ((B67.out.block _ (lt_of_rowR RA5.out)).trans RA5.out)).trans rfl
          have d5 := show w7.cell? ⟨w.heap.size, 5, none⟩ = some (.string ri) from (cell_of_row _ _ 5 _ _ _ ((B67.out.block _ (lt_of_rowR RA5.out)).trans RA5.out)).trans rfl
          have d6 := show w7.cell? ⟨w.heap.size, 6, none⟩ = some (.string ra) from (cell_of_row _ _ 6 _ _ _ ((B67.out.block _ (lt_of_rowR RA5.out)).trans RA5.out)).trans rfl
          have dp0 := show w7.cell? ⟨w.heap.size + 1, 0, none⟩ = some (.int .i64 p1) from (cell_of_row _ _ 0 _ _ _ ((B67.out.block _ (lt_of_rowR RB5.out)).trans RB5.out)).trans rfl
          have dp1 := show w7.cell? ⟨w.heap.size + 1, 1, none⟩ = some (.int .i64 p2) from (cell_of_row _ _ 1 _ _ _ ((B67.out.block _ (lt_of_rowR RB5.out)).trans RB5.out)).trans rfl
          clear bQ hw7 SV 
          simp only [Ent.row] at SV7
          go_wp2_with fail
          refine SV7.out.mono ?_; rintro e w8 ⟨rfl, ⟨lv, M, hset, hri⟩, hb⟩
          have HM := Lib.hid hset.len
          have NLM := Lib.hid (hset.nl HNL.out)
          have RI8 := Lib.hid hri
          have B8 := Lib.hid ((BRV.out.trans (Fw.of_below B67.out)).trans (hb.mono (fun i _ hh => Or.inl hh)))
          clear hset hri hb SV7 d2 d3 d4 d5 d6 dp0 dp1
          go_wp2_with fail
          go_ret
          exact ⟨rfl, ⟨_, lv, _, M, RI8.out, NLM.out, ENS.out, by rw [List.length_append]; simp, HM.out⟩, B8.out⟩

        · obtain ⟨oL, cL, hvL, hcl⟩ : ∃ oa cap, vL = .slice oa L.length cap ∧ ∀ i (hi : i < L.length), ∃ b off, oa = some ⟨b, off, none⟩ ∧ ∀ j u, (encNw L[i])[j]? = some u → w6.cell? ⟨b, off + i * 7 + j, none⟩ = some u := by
            obtain ⟨oa, cap, h1, _, h2⟩ := own_lr (k := 7) (enc := encNw) (fun _ => rfl) RI6.out.ls
            exact ⟨oa, cap, h1, h2⟩
          obtain ⟨nL, hnL⟩ : ∃ z, z = L.length := ⟨_, rfl⟩
          have hjn : (j : Int) < (nL : Int) := by omega
          have hjn' : j < nL := by omega
          have hjg : (j : Int) ≥ 0 := by omega
          rw [← hnL] at hvL
          obtain ⟨b, off, hoL, hc⟩ := hcl j hj
          rw [hje] at hc
          have x1 := cell_regrown (hc 1 _ rfl)
          have hrow := RI6.out.row
          rw [hvL] at hrow
          have c1 := cell_regrown ((cell_of_row _ _ 1 _ _ _ hrow).trans (show _ = some (.slice oL nL cL) from rfl))
          have b3 := cell_regrown (show w6.cell? ⟨w.heap.size, 3, none⟩ = some (.int .u64 (rv : Int)) from (cell_of_row _ _ 3 _ _ _ ((BV6.out.block _ (lt_of_rowR RA5.out)).trans RA5.out)).trans rfl)
          subst hvL
          subst hoL
          have HNLL := Lib.hid hnL
          clear hcl hc hrow hje hnL
          by_cases hvv : rv < e.ver
          · have v1 : ((e.ver : Int) > (rv : Int)) = True := eq_true (by omega)
            have v2 : (rv < e.ver) = True := eq_true hvv
            have v3 : decide ((e.ver : Int) > (rv : Int)) = true := decide_eq_true (by omega)
            have hnn : ¬ news N (⟨rl, re, 1, rv, rd, ri, ra⟩ : Rec) := fun hh => by have := hh e hn; exact absurd hvv (Nat.not_lt.2 this)
            have HB := HAB.out.trans (show addB N Q (⟨rl, re, 1, rv, rd, ri, ra⟩ : Rec) (p1, p2) = false from decide_eq_false (fun h => hnn h.2))
            have HN := HAN.out.trans (show addN N Q (⟨rl, re, 1, rv, rd, ri, ra⟩ : Rec) (p1, p2) = N from if_neg (fun h => hnn h.2))
            subst HB HN
            clear hnn hn hvv
            obtain ⟨ever, hever⟩ : ∃ z, z = e.ver := ⟨_, rfl⟩
            rw [← hever] at x1 v1 v2 v3
            clear hever
            go_wp2_with fail
            refine Loose.wp_region_quiet_fast (by kernel_rfl) (by kernel_rfl) ?_
            (try simp only [List.append_eq, List.cons_append, List.nil_append])
            repeat (go_big_quiet_step (fail))
            refine wpQuiet_nil ?_
            intro _ hw'
            obtain ⟨⟨dq, osq⟩, hw''⟩ := hw'
            subst hw''
            have bQ := below_regrown w6 dq osq
            have B67 := Lib.hid (stepR BV6.out bQ)
            have RI7 := Lib.hid (RI6.out.below bQ)
            clear bQ x1 c1 b3 v1 v2 v3
            go_wp2_with fail
            go_ret
            exact ⟨rfl, ⟨_, _, _, L, RI7.out, HNL.out, ENS.out, by rw [List.length_append]; simp, by omega⟩, BRV.out.trans (Fw.of_below B67.out)⟩
          · have v1 : ((e.ver : Int) > (rv : Int)) = False := eq_false (by omega)
            have v2 : (rv < e.ver) = False := eq_false hvv
            have v3 : decide ((e.ver : Int) > (rv : Int)) = false := decide_eq_false (by omega)
            have hev : e.ver ≤ rv := by omega
            obtain ⟨ever, hever⟩ : ∃ z, z = e.ver := ⟨_, rfl⟩
            have NW : Hid (news N (⟨rl, re, 1, rv, rd, ri, ra⟩ : Rec)) := Lib.hid (fun e' he' => by rw [show N ri = some e from hn] at he'; rw [← Option.some.inj he']; exact hev)
            rw [← hever] at x1 v1 v2 v3
            clear hever hev hvv
            go_wp2_with fail
            have hnw : news N (⟨rl, re, 1, rv, rd, ri, ra⟩ : Rec) := NW.out
            have SV := Lib.hid (fun W hW => rset_val W R _ _ _ L ri (⟨rv, rd, true, 31 + (ri.size : Int) + (ra.size : Int), p1, p2⟩ : Ent) (RI6.out.below hW) (by omega))
            have HB := HAB.out.trans (show addB N Q (⟨rl, re, 1, rv, rd, ri, ra⟩ : Rec) (p1, p2) = true from decide_eq_true ⟨HTT.out, hnw⟩)
            have HN := HAN.out.trans (show addN N Q (⟨rl, re, 1, rv, rd, ri, ra⟩ : Rec) (p1, p2) = updM N ri (some (⟨rv, rd, true, 31 + (ri.size : Int) + (ra.size : Int), p1, p2⟩ : Ent)) from if_pos ⟨HTT.out, hnw⟩)
            subst HB HN
            clear hnw hn
            refine Loose.wp_region_quiet_fast (by kernel_rfl) (by kernel_rfl) ?_
            (try simp only [List.append_eq, List.cons_append, List.nil_append])
            repeat (go_big_quiet_step (fail))
            refine wpQuiet_nil ?_
            intro _ hw'
            obtain ⟨⟨dq, osq⟩, hw''⟩ := hw'
            subst hw''
            have bQ := below_regrown w6 dq osq
            obtain ⟨w7, hw7⟩ : ∃ W, W = Go.Sort.grow (Go.redrawn w6 dq) osq := ⟨_, rfl⟩
            rw [← hw7] at bQ
            rw [← hw7]
            have SV7 := Lib.hid (SV.out w7 bQ)
            have B67 := Lib.hid (stepR BV6.out bQ)
            have d2 := show w7.cell? ⟨w.heap.size, 2, none⟩ = some (.int .i64 1) from (cell_of_row _ _ 2 _ _ _ ((B67.out.block _ (lt_of_rowR RA5.out)).trans RA5.out)).trans rfl
            have d3 := show w7.cell? ⟨w.heap.size, 3, none⟩ = some (.int .u64 (rv : Int)) from (cell_of_row _ _ 3 _ _ _ ((B67.out.block _ (lt_of_rowR RA5.out)).trans RA5.out)).trans rfl
            have d4 := show w7.cell? ⟨w.heap.size, 4, none⟩ = some (.int .u64 (rd : Int)) from (cell_of_row _ _ 4 _ _ _ ((B67.out.block _ (lt_of_rowR RA5.out)).trans RA5.out)).trans rfl
            have d5 := show w7.cell? ⟨w.heap.size, 5, none⟩ = some (.string ri) from (cell_of_row _ _ 5 _ _ _ ((B67.out.block _ (lt_of_rowR RA5.out)).trans RA5.out)).trans rfl
            have d6 := show w7.cell? ⟨w.heap.size, 6, none⟩ = some (.string ra) from (cell_of_row _ _ 6 _ _ _ ((B67.out.block _ (lt_of_rowR RA5.out)).trans RA5.out)).trans rfl
            have dp0 := show w7.cell? ⟨w.heap.size + 1, 0, none⟩ = some (.int .i64 p1) from (cell_of_row _ _ 0 _ _ _ ((B67.out.block _ (lt_of_rowR RB5.out)).trans RB5.out)).trans rfl
            have dp1 := show w7.cell? ⟨w.heap.size + 1, 1, none⟩ = some (.int .i64 p2) from (cell_of_row _ _ 1 _ _ _ ((B67.out.block _ (lt_of_rowR RB5.out)).trans RB5.out)).trans rfl
            clear bQ hw7 SV x1 c1 b3 v1 v2 v3
            simp only [Ent.row] at SV7
            go_wp2_with fail
            refine SV7.out.mono ?_; rintro e w8 ⟨rfl, ⟨lv, M, hset, hri⟩, hb⟩
            have HM := Lib.hid hset.len
            have NLM := Lib.hid (hset.nl HNL.out)
            have RI8 := Lib.hid hri
            have B8 := Lib.hid ((BRV.out.trans (Fw.of_below B67.out)).trans (hb.mono (fun i _ hh => Or.inl hh)))
            clear hset hri hb SV7 d2 d3 d4 d5 d6 dp0 dp1
            go_wp2_with fail
            go_ret
            exact ⟨rfl, ⟨_, lv, _, M, RI8.out, NLM.out, ENS.out, by rw [List.length_append]; simp, HM.out⟩, B8.out⟩


      · go_simp
        refine hK.out _ _ HSA.out (fun _ => ?_)
        clear hK K'
        refine wpAnyH_ready (rs := [4]) (by kernel_rfl) (by simp) ?_
        refine AllReadyH.cons rfl (fun K' hK => ?_) AllReadyH.nil
        go_simp
        refine hK.out _ _ HSA.out (fun _ => ?_)
        clear hK K'
        refine wpAnyH_ready (rs := [10]) (by kernel_rfl) (by simp) ?_
        refine AllReadyH.cons rfl (fun K' hK => ?_) AllReadyH.nil
        refine step_append_lies _ rfl _ _ 26 rfl (R + 1) 89 ii zz 3 32 Try.underlying26 i1 i2 i3 i4 i5 (by decide) (.slice oS nS cS) nS (S.flatMap encSt) rfl (World.ownsRow.alloc OWN.out _) ⟨Wd.heap.size, 0, none⟩ 1 1 [.string ri, .int .i64 p1, .int .i64 p2] rfl rfl (World.news_of_block HNW.out) (by simp [Value.oneCell']) (by decide) (by simp only [maxLen]; omega) (by omega) (by have := HRL.out; have := BD.out.size; rw [z9]; omega) _ rfl ?_
        intro g cap w5 hown hg hw hlt5
        have own5 : OwnL (R + 1) 89 3 encSt w5 (.slice (some ⟨g, 0, none⟩) (nS + 1) cap) (S ++ [(((p1, p2) : Plc), ri)]) := by show World.ownsRow _ _ _ _ _ (S ++ [(((p1, p2) : Plc), ri)]).length ((S ++ [(((p1, p2) : Plc), ri)]).flatMap encSt); rw [flat_snoc, List.length_append, ← HNS.out]; exact hown
        have hpush := RId.out.push ((Below.refl Wd.heap.size Wd).alloc (Nat.le_refl _) (.cells #[.string ri, .int .i64 p1, .int .i64 p2] (89 : Nat))) hg own5 (by rcases hw with hw | hw; exact Or.inl hw; exact Or.inr (by rw [hw, z9]; omega))
        have hrow5 := RId.out.push_row ((Below.refl Wd.heap.size Wd).alloc (Nat.le_refl _) (.cells #[.string ri, .int .i64 p1, .int .i64 p2] (89 : Nat))) hg
        have hnown : ∀ k, w.heap.size ≤ k → some k ≠ (Value.slice oS nS cS).ownBlock := fun k hk e => by have h1 := (own_geR RI0.out.st k e).2; omega
        have hS5 : Bq #[.int .u64 (rl : Int), .int .u32 (re : Int), .int .i64 1, .int .u64 (rv : Int), .int .u64 (rd : Int), .string ri, .string ra] p1 p2 w.heap.size w5 := ⟨(hg.block _ (lt_of_rowR HSA.out.a) (hnown _ (Nat.le_refl _))).trans HSA.out.a, (hg.block _ (lt_of_rowR HSA.out.b) (hnown _ (Nat.le_succ _))).trans HSA.out.b⟩
        have c05 := (cell_of_row _ _ 0 _ _ _ hrow5).trans (show _ = some (.slice oS nS cS) from rfl)
        have fz5 := frozen_of_row _ _ 0 _ _ hrow5
        have HPUSH := Lib.hid hpush
        have hS6 : Bq #[.int .u64 (rl : Int), .int .u32 (re : Int), .int .i64 1, .int .u64 (rv : Int), .int .u64 (rd : Int), .string ri, .string ra] p1 p2 w.heap.size (w5.setCell ⟨R, 0, none⟩ (.slice (some ⟨g, 0, none⟩) (nS + 1) cap)) := hS5.cell HRL.out
        refine hK.out _ _ hS5 (fun hS5 => ?_)
        clear hK K' hown hg hw hlt5 own5 hpush hrow5 hnown c0 c0a
        refine wpAnyH_take (i := 11) (v := .pointer (some ⟨R, 0, none⟩)) rfl (by kernel_rfl) ?_ ?_ (fun _ _ _ h => h) (Or.inl ⟨by first | kernel_rfl | rfl, ?_⟩) hS5 ?_
        · kernel_rfl
        · kernel_rfl
        · intro V hV; go_simp
        refine wpAnyH_take (i := 12) (v := .pointer (some ⟨R, 0, none⟩)) rfl (by kernel_rfl) ?_ ?_ (fun _ _ _ h => h) (Or.inl ⟨by first | kernel_rfl | rfl, ?_⟩) hS5 ?_
        · kernel_rfl
        · kernel_rfl
        · intro V hV; go_simp
        refine wpAnyH_ready (rs := [13]) (by kernel_rfl) (by simp) ?_
        refine AllReadyH.cons rfl (fun K' hK => ?_) AllReadyH.nil
        go_simp
        refine hK.out _ _ hS6 (fun hS6 => ?_)
        clear hK K' c05 fz5 hS5
        obtain ⟨V, hV⟩ : ∃ W, W = w5.setCell ⟨R, 0, none⟩ (.slice (some ⟨g, 0, none⟩) (nS + 1) cap) := ⟨_, rfl⟩
        rw [← hV] at HPUSH hS6 ⊢
        have RI5 := Lib.hid HPUSH.out.1
        have RA5 := Lib.hid hS6.a
        have RB5 := Lib.hid hS6.b
        have BRV := Lib.hid ((Fw.of_below BD.out).trans (HPUSH.out.2))
        have RLV := Lib.hid (lt_of_rowR RI5.out.row)
        clear hV HPUSH hS6
        refine wpAnyH_done (by kernel_rfl) ?_ _
        have f5 := show V.cell? ⟨w.heap.size, 5, none⟩ = some (.string ri) from (cell_of_row _ _ 5 _ _ _ (((Below.refl V.heap.size V).block _ (lt_of_rowR RA5.out)).trans RA5.out)).trans rfl
        have FV := Lib.hid (rfind_val V R _ vL _ L ri RI5.out (by omega))
        go_wp2_with fail
        refine FV.out.mono ?_; rintro e w6 ⟨⟨k, rfl, hk⟩, hb⟩
        have RI6 := Lib.hid (RI5.out.below hb)
        have BV6 := Lib.hid hb
        have hk2 := find_en HNL.out.en hk
        clear hk hb FV f5
        rcases hk2 with ⟨rfl, hn⟩ | ⟨j, e, hj, rfl, hje, hn⟩
        · go_wp2_with fail
          have hnw : news N (⟨rl, re, 1, rv, rd, ri, ra⟩ : Rec) := fun e he => by rw [show N ri = none from hn] at he; cases he
          have SV := Lib.hid (fun W hW => rset_val W R _ _ _ L ri (⟨rv, rd, true, 31 + (ri.size : Int) + (ra.size : Int), p1, p2⟩ : Ent) (RI6.out.below hW) (by omega))
          have HB := HAB.out.trans (show addB N Q (⟨rl, re, 1, rv, rd, ri, ra⟩ : Rec) (p1, p2) = true from decide_eq_true ⟨HTT.out, hnw⟩)
          have HN := HAN.out.trans (show addN N Q (⟨rl, re, 1, rv, rd, ri, ra⟩ : Rec) (p1, p2) = updM N ri (some (⟨rv, rd, true, 31 + (ri.size : Int) + (ra.size : Int), p1, p2⟩ : Ent)) from if_pos ⟨HTT.out, hnw⟩)
          subst HB HN
          clear hnw hn
          refine Loose.wp_region_quiet_fast (by kernel_rfl) (by kernel_rfl) ?_
          (try simp only [List.append_eq, List.cons_append, List.nil_append])
          repeat (go_big_quiet_step (fail))
          refine wpQuiet_nil ?_
          intro _ hw'
          obtain ⟨⟨dq, osq⟩, hw''⟩ := hw'
          subst hw''
          have bQ := below_regrown w6 dq osq
          obtain ⟨w7, hw7⟩ : ∃ W, W = Go.Sort.grow (Go.redrawn w6 dq) osq := ⟨_, rfl⟩
          rw [← hw7] at bQ
          rw [← hw7]
          have SV7 := Lib.hid (SV.out w7 bQ)
          have B67 := Lib.hid (stepR BV6.out bQ)
          have d2 := show w7.cell? ⟨w.heap.size, 2, none⟩ = some (.int .i64 1) from (cell_of_row _ _ 2 _ _ _ ((B67.out.block _ (lt_of_rowR RA5.out)).trans RA5.out)).trans rfl
          have d3 := show w7.cell? ⟨w.heap.size, 3, none⟩ = some (.int .u64 (rv : Int)) from (cell_of_row _ _ 3 _ _ _ ((B67.out.block _ (lt_of_rowR RA5.out)).trans RA5.out)).trans rfl
          have d4 := show w7.cell? ⟨w.heap.size, 4, none⟩ = some (.int .u64 (rd : Int)) from (cell_of_row _ _ 4 _ _ _ ((B67.out.block _ (lt_of_rowR RA5.out)).trans RA5.out)).trans rfl
          have d5 := show w7.cell? ⟨w.heap.size, 5, none⟩ = some (.string ri) from (cell_of_row _ _ 5 _ _ _ ((B67.out.block _ (lt_of_rowR RA5.out)).trans RA5.out)).trans rfl
          have d6 := show w7.cell? ⟨w.heap.size, 6, none⟩ = some (.string ra) from (cell_of_row _ _ 6 _ _ _ ((B67.out.block _ (lt_of_rowR RA5.out)).trans RA5.out)).trans rfl
          have dp0 := show w7.cell? ⟨w.heap.size + 1, 0, none⟩ = some (.int .i64 p1) from (cell_of_row _ _ 0 _ _ _ ((B67.out.block _ (lt_of_rowR RB5.out)).trans RB5.out)).trans rfl
          have dp1 := show w7.cell? ⟨w.heap.size + 1, 1, none⟩ = some (.int .i64 p2) from (cell_of_row _ _ 1 _ _ _ ((B67.out.block _ (lt_of_rowR RB5.out)).trans RB5.out)).trans rfl
          clear bQ hw7 SV 
          simp only [Ent.row] at SV7
          go_wp2_with fail
          refine SV7.out.mono ?_; rintro e w8 ⟨rfl, ⟨lv, M, hset, hri⟩, hb⟩
          have HM := Lib.hid hset.len
          have NLM := Lib.hid (hset.nl HNL.out)
          have RI8 := Lib.hid hri
          have B8 := Lib.hid ((BRV.out.trans (Fw.of_below B67.out)).trans (hb.mono (fun i _ hh => Or.inl hh)))
          clear hset hri hb SV7 d2 d3 d4 d5 d6 dp0 dp1
          go_wp2_with fail
          go_ret
          exact ⟨rfl, ⟨_, lv, _, M, RI8.out, NLM.out, ENS.out, by rw [List.length_append]; simp, HM.out⟩, B8.out⟩

        · obtain ⟨oL, cL, hvL, hcl⟩ : ∃ oa cap, vL = .slice oa L.length cap ∧ ∀ i (hi : i < L.length), ∃ b off, oa = some ⟨b, off, none⟩ ∧ ∀ j u, (encNw L[i])[j]? = some u → w6.cell? ⟨b, off + i * 7 + j, none⟩ = some u := by
            obtain ⟨oa, cap, h1, _, h2⟩ := own_lr (k := 7) (enc := encNw) (fun _ => rfl) RI6.out.ls
            exact ⟨oa, cap, h1, h2⟩
          obtain ⟨nL, hnL⟩ : ∃ z, z = L.length := ⟨_, rfl⟩
          have hjn : (j : Int) < (nL : Int) := by omega
          have hjn' : j < nL := by omega
          have hjg : (j : Int) ≥ 0 := by omega
          rw [← hnL] at hvL
          obtain ⟨b, off, hoL, hc⟩ := hcl j hj
          rw [hje] at hc
          have x1 := cell_regrown (hc 1 _ rfl)
          have hrow := RI6.out.row
          rw [hvL] at hrow
          have c1 := cell_regrown ((cell_of_row _ _ 1 _ _ _ hrow).trans (show _ = some (.slice oL nL cL) from rfl))
          have b3 := cell_regrown (show w6.cell? ⟨w.heap.size, 3, none⟩ = some (.int .u64 (rv : Int)) from (cell_of_row _ _ 3 _ _ _ ((BV6.out.block _ (lt_of_rowR RA5.out)).trans RA5.out)).trans rfl)
          subst hvL
          subst hoL
          have HNLL := Lib.hid hnL
          clear hcl hc hrow hje hnL
          by_cases hvv : rv < e.ver
          · have v1 : ((e.ver : Int) > (rv : Int)) = True := eq_true (by omega)
            have v2 : (rv < e.ver) = True := eq_true hvv
            have v3 : decide ((e.ver : Int) > (rv : Int)) = true := decide_eq_true (by omega)
            have hnn : ¬ news N (⟨rl, re, 1, rv, rd, ri, ra⟩ : Rec) := fun hh => by have := hh e hn; exact absurd hvv (Nat.not_lt.2 this)
            have HB := HAB.out.trans (show addB N Q (⟨rl, re, 1, rv, rd, ri, ra⟩ : Rec) (p1, p2) = false from decide_eq_false (fun h => hnn h.2))
            have HN := HAN.out.trans (show addN N Q (⟨rl, re, 1, rv, rd, ri, ra⟩ : Rec) (p1, p2) = N from if_neg (fun h => hnn h.2))
            subst HB HN
            clear hnn hn hvv
            obtain ⟨ever, hever⟩ : ∃ z, z = e.ver := ⟨_, rfl⟩
            rw [← hever] at x1 v1 v2 v3
            clear hever
            go_wp2_with fail
            refine Loose.wp_region_quiet_fast (by kernel_rfl) (by kernel_rfl) ?_
            (try simp only [List.append_eq, List.cons_append, List.nil_append])
            repeat (go_big_quiet_step (fail))
            refine wpQuiet_nil ?_
            intro _ hw'
            obtain ⟨⟨dq, osq⟩, hw''⟩ := hw'
            subst hw''
            have bQ := below_regrown w6 dq osq
            have B67 := Lib.hid (stepR BV6.out bQ)
            have RI7 := Lib.hid (RI6.out.below bQ)
            clear bQ x1 c1 b3 v1 v2 v3
            go_wp2_with fail
            go_ret
            exact ⟨rfl, ⟨_, _, _, L, RI7.out, HNL.out, ENS.out, by rw [List.length_append]; simp, by omega⟩, BRV.out.trans (Fw.of_below B67.out)⟩
          · have v1 : ((e.ver : Int) > (rv : Int)) = False := eq_false (by omega)
            have v2 : (rv < e.ver) = False := eq_false hvv
            have v3 : decide ((e.ver : Int) > (rv : Int)) = false := decide_eq_false (by omega)
            have hev : e.ver ≤ rv := by omega
            obtain ⟨ever, hever⟩ : ∃ z, z = e.ver := ⟨_, rfl⟩
            have NW : Hid (news N (⟨rl, re, 1, rv, rd, ri, ra⟩ : Rec)) := Lib.hid (fun e' he' => by rw [show N ri = some e from hn] at he'; rw [← Option.some.inj he']; exact hev)
            rw [← hever] at x1 v1 v2 v3
            clear hever hev hvv
            go_wp2_with fail
            have hnw : news N (⟨rl, re, 1, rv, rd, ri, ra⟩ : Rec) := NW.out
            have SV := Lib.hid (fun W hW => rset_val W R _ _ _ L ri (⟨rv, rd, true, 31 + (ri.size : Int) + (ra.size : Int), p1, p2⟩ : Ent) (RI6.out.below hW) (by omega))
            have HB := HAB.out.trans (show addB N Q (⟨rl, re, 1, rv, rd, ri, ra⟩ : Rec) (p1, p2) = true from decide_eq_true ⟨HTT.out, hnw⟩)
            have HN := HAN.out.trans (show addN N Q (⟨rl, re, 1, rv, rd, ri, ra⟩ : Rec) (p1, p2) = updM N ri (some (⟨rv, rd, true, 31 + (ri.size : Int) + (ra.size : Int), p1, p2⟩ : Ent)) from if_pos ⟨HTT.out, hnw⟩)
            subst HB HN
            clear hnw hn
            refine Loose.wp_region_quiet_fast (by kernel_rfl) (by kernel_rfl) ?_
            (try simp only [List.append_eq, List.cons_append, List.nil_append])
            repeat (go_big_quiet_step (fail))
            refine wpQuiet_nil ?_
            intro _ hw'
            obtain ⟨⟨dq, osq⟩, hw''⟩ := hw'
            subst hw''
            have bQ := below_regrown w6 dq osq
            obtain ⟨w7, hw7⟩ : ∃ W, W = Go.Sort.grow (Go.redrawn w6 dq) osq := ⟨_, rfl⟩
            rw [← hw7] at bQ
            rw [← hw7]
            have SV7 := Lib.hid (SV.out w7 bQ)
            have B67 := Lib.hid (stepR BV6.out bQ)
            have d2 := show w7.cell? ⟨w.heap.size, 2, none⟩ = some (.int .i64 1) from (cell_of_row _ _ 2 _ _ _ ((B67.out.block _ (lt_of_rowR RA5.out)).trans RA5.out)).trans rfl
            have d3 := show w7.cell? ⟨w.heap.size, 3, none⟩ = some (.int .u64 (rv : Int)) from (cell_of_row _ _ 3 _ _ _ ((B67.out.block _ (lt_of_rowR RA5.out)).trans RA5.out)).trans rfl
            have d4 := show w7.cell? ⟨w.heap.size, 4, none⟩ = some (.int .u64 (rd : Int)) from (cell_of_row _ _ 4 _ _ _ ((B67.out.block _ (lt_of_rowR RA5.out)).trans RA5.out)).trans rfl
            have d5 := show w7.cell? ⟨w.heap.size, 5, none⟩ = some (.string ri) from (cell_of_row _ _ 5 _ _ _ ((B67.out.block _ (lt_of_rowR RA5.out)).trans RA5.out)).trans rfl
            have d6 := show w7.cell? ⟨w.heap.size, 6, none⟩ = some (.string ra) from (cell_of_row _ _ 6 _ _ _ ((B67.out.block _ (lt_of_rowR RA5.out)).trans RA5.out)).trans rfl
            have dp0 := show w7.cell? ⟨w.heap.size + 1, 0, none⟩ = some (.int .i64 p1) from (cell_of_row _ _ 0 _ _ _ ((B67.out.block _ (lt_of_rowR RB5.out)).trans RB5.out)).trans rfl
            have dp1 := show w7.cell? ⟨w.heap.size + 1, 1, none⟩ = some (.int .i64 p2) from (cell_of_row _ _ 1 _ _ _ ((B67.out.block _ (lt_of_rowR RB5.out)).trans RB5.out)).trans rfl
            clear bQ hw7 SV x1 c1 b3 v1 v2 v3
            simp only [Ent.row] at SV7
            go_wp2_with fail
            refine SV7.out.mono ?_; rintro e w8 ⟨rfl, ⟨lv, M, hset, hri⟩, hb⟩
            have HM := Lib.hid hset.len
            have NLM := Lib.hid (hset.nl HNL.out)
            have RI8 := Lib.hid hri
            have B8 := Lib.hid ((BRV.out.trans (Fw.of_below B67.out)).trans (hb.mono (fun i _ hh => Or.inl hh)))
            clear hset hri hb SV7 d2 d3 d4 d5 d6 dp0 dp1
            go_wp2_with fail
            go_ret
            exact ⟨rfl, ⟨_, lv, _, M, RI8.out, NLM.out, ENS.out, by rw [List.length_append]; simp, HM.out⟩, B8.out⟩



    · by_cases hk2 : rk = 2
      · subst hk2
        have hT : takes Q (⟨rl, re, 2, rv, rd, ri, ra⟩ : Rec) (p1, p2) := ⟨hq, Or.inr rfl⟩
        have HTT := Lib.hid hT
        have HQ := HAQ.out.trans (if_pos hT)
        subst HQ
        have enS : En (updM Q (p1, p2) (some ri)) (S ++ [(((p1, p2) : Plc), ri)]) := HQE.out.snoc hq ri
        have ENS := Lib.hid enS
        obtain ⟨oS, cS, hvS⟩ := (own_lr (k := 3) (enc := encSt) (fun _ => rfl) RI2.out.st).form
        obtain ⟨nS, hnS⟩ : ∃ z, z = S.length := ⟨_, rfl⟩
        rw [← hnS] at hvS
        subst hvS
        have HNS := Lib.hid hnS
        have hnS9 : nS ≤ 999999 := by omega
        have b2 := show w2.cell? ⟨w.heap.size, 2, none⟩ = some (.int .i64 2) from (cell_of_row _ _ 2 _ _ _ ((B12.out.block _ (lt_of_rowR ROWA.out)).trans ROWA.out)).trans rfl
        clear enS hnS hT hq
        go_wp2_with fail
        clear b2
        (try go_frame)
        refine wp_region_held (S := fun V => Bq #[.int .u64 (rl : Int), .int .u32 (re : Int), .int .i64 2, .int .u64 (rv : Int), .int .u64 (rd : Int), .string ri, .string ra] p1 p2 w.heap.size V) (by kernel_rfl) ?_
        obtain ⟨Wd, hWd⟩ : ∃ x, x = { w2 with drawn := w2.drawn + 1 } := ⟨_, rfl⟩
        have bd : Below w2.heap.size w2 Wd := by rw [hWd]; exact ⟨rfl, rfl, rfl, Nat.le_refl _, fun _ _ => rfl⟩
        rw [← hWd]
        have hS0 : Bq #[.int .u64 (rl : Int), .int .u32 (re : Int), .int .i64 2, .int .u64 (rv : Int), .int .u64 (rd : Int), .string ri, .string ra] p1 p2 w.heap.size Wd := ⟨((stepR B12.out bd).block _ (lt_of_rowR ROWA.out)).trans ROWA.out, ((stepR B12.out bd).block _ (lt_of_rowR ROWB.out)).trans ROWB.out⟩
        have RId := Lib.hid (RI2.out.below bd)
        have BD := Lib.hid (stepR B02.out bd)
        have a5 : ∀ V, Bq #[.int .u64 (rl : Int), .int .u32 (re : Int), .int .i64 2, .int .u64 (rv : Int), .int .u64 (rd : Int), .string ri, .string ra] p1 p2 w.heap.size V → V.cell? ⟨w.heap.size, 5, none⟩ = some (.string ri) := fun V hV => (cell_of_row _ _ 5 _ _ _ hV.a).trans rfl
        have q0 : ∀ V, Bq #[.int .u64 (rl : Int), .int .u32 (re : Int), .int .i64 2, .int .u64 (rv : Int), .int .u64 (rd : Int), .string ri, .string ra] p1 p2 w.heap.size V → V.cell? ⟨w.heap.size + 1, 0, none⟩ = some (.int .i64 p1) := fun V hV => (cell_of_row _ _ 0 _ _ _ hV.b).trans rfl
        have q1 : ∀ V, Bq #[.int .u64 (rl : Int), .int .u32 (re : Int), .int .i64 2, .int .u64 (rv : Int), .int .u64 (rd : Int), .string ri, .string ra] p1 p2 w.heap.size V → V.cell? ⟨w.heap.size + 1, 1, none⟩ = some (.int .i64 p2) := fun V hV => (cell_of_row _ _ 1 _ _ _ hV.b).trans rfl
        clear hWd bd
        refine wpAnyH_take (i := 0) (v := .pointer (some ⟨R, 0, none⟩)) rfl (by kernel_rfl) ?_ ?_ (fun _ _ _ h => h) (Or.inl ⟨by first | kernel_rfl | rfl, ?_⟩) hS0 ?_
        · kernel_rfl
        · kernel_rfl
        · intro V hV; go_simp
        refine wpAnyH_take (i := 1) (v := .pointer (some ⟨R, 0, none⟩)) rfl (by kernel_rfl) ?_ ?_ (fun _ _ _ h => h) (Or.inl ⟨by first | kernel_rfl | rfl, ?_⟩) hS0 ?_
        · kernel_rfl
        · kernel_rfl
        · intro V hV; go_simp
        refine wpAnyH_take (i := 2) (v := .pointer (some ⟨R, 0, none⟩)) rfl (by kernel_rfl) ?_ ?_ (fun _ _ _ h => h) (Or.inl ⟨by first | kernel_rfl | rfl, ?_⟩) hS0 ?_
        · kernel_rfl
        · kernel_rfl
        · intro V hV; go_simp
        refine wpAnyH_take (i := 3) (v := .pointer (some ⟨R, 0, none⟩)) rfl (by kernel_rfl) ?_ ?_ (fun _ _ _ h => h) (Or.inl ⟨by first | kernel_rfl | rfl, ?_⟩) hS0 ?_
        · kernel_rfl
        · kernel_rfl
        · intro V hV; go_simp
        refine wpAnyH_take (i := 5) (v := .pointer (some ⟨w.heap.size, 5, none⟩)) rfl (by kernel_rfl) ?_ ?_ (fun _ _ _ h => h) (Or.inl ⟨by first | kernel_rfl | rfl, ?_⟩) hS0 ?_
        · kernel_rfl
        · kernel_rfl
        · intro V hV; go_simp
        refine wpAnyH_take (i := 6) (v := .string ri) rfl (by kernel_rfl) ?_ ?_ (fun _ _ _ h => h) (Or.inl ⟨by first | kernel_rfl | rfl, ?_⟩) hS0 ?_
        · kernel_rfl
        · kernel_rfl
        · intro V hV; go_simp
        refine wpAnyH_take (i := 7) (v := .agg #[.int .i64 p1, .int .i64 p2]) rfl (by kernel_rfl) ?_ ?_ (fun _ _ _ h => h) (Or.inl ⟨by first | kernel_rfl | rfl, ?_⟩) hS0 ?_
        · kernel_rfl
        · kernel_rfl
        · intro V hV; go_simp
        refine wpAnyH_take (i := 8) (v := .agg #[.string ri, .int .i64 p1, .int .i64 p2]) rfl (by kernel_rfl) ?_ ?_ (fun _ _ _ h => h) (Or.inl ⟨by first | kernel_rfl | rfl, ?_⟩) hS0 ?_
        · kernel_rfl
        · kernel_rfl
        · intro V hV; go_simp
        have own0 : Wd.ownsRow (R + 1) 89 3 (.slice oS nS cS) S.length (S.flatMap encSt) := RId.out.st
        rw [← HNS.out] at own0
        have OWN := Lib.hid own0
        have c0 := (cell_of_row _ _ 0 _ _ _ RId.out.row).trans (show _ = some (.slice oS nS cS) from rfl)
        have bal : Below w.heap.size w (Wd.alloc (.cells #[.string ri, .int .i64 p1, .int .i64 p2] (89 : Nat))) := BD.out.alloc BD.out.size _
        have hSa : Bq #[.int .u64 (rl : Int), .int .u32 (re : Int), .int .i64 2, .int .u64 (rv : Int), .int .u64 (rd : Int), .string ri, .string ra] p1 p2 w.heap.size (Wd.alloc (.cells #[.string ri, .int .i64 p1, .int .i64 p2] (89 : Nat))) := hS0.below ((Below.refl _ _).alloc (Nat.le_refl _) _)
        have c0a : (Wd.alloc (.cells #[.string ri, .int .i64 p1, .int .i64 p2] (89 : Nat))).cell? ⟨R, 0, none⟩ = some (.slice oS nS cS) := (((Below.refl Wd.heap.size Wd).alloc (Nat.le_refl _) (.cells #[.string ri, .int .i64 p1, .int .i64 p2] (89 : Nat))).cell (p := ⟨R, 0, none⟩) (lt_of_cellR c0)).trans c0
        have BAL := Lib.hid bal
        have HSA := Lib.hid hSa
        clear own0 bal a5 q0 q1
        have HNW := Lib.hid (heap_alloc_new Wd (.cells #[.string ri, .int .i64 p1, .int .i64 p2] (89 : Nat)))
        have z9 := alloc_sizeR Wd (.cells #[.string ri, .int .i64 p1, .int .i64 p2] (89 : Nat))
        obtain ⟨ii, zz, i1, i2, i3, i4, i5⟩ := st_info
        refine wpAnyH_ready (rs := [4, 9]) (by kernel_rfl) (by simp) ?_
        refine AllReadyH.cons rfl (fun K' hK => ?_) (AllReadyH.cons rfl (fun K' hK => ?_) AllReadyH.nil)
        · go_simp
          refine hK.out _ _ hS0 (fun _ => ?_)
          clear hK K'
          refine wpAnyH_ready (rs := [9]) (by kernel_rfl) (by simp) ?_
          refine AllReadyH.cons rfl (fun K' hK => ?_) AllReadyH.nil
          go_simp
          refine hK.out _ _ HSA.out (fun _ => ?_)
          clear hK K'
          refine wpAnyH_ready (rs := [10]) (by kernel_rfl) (by simp) ?_
          refine AllReadyH.cons rfl (fun K' hK => ?_) AllReadyH.nil
          refine step_append_lies _ rfl _ _ 26 rfl (R + 1) 89 ii zz 3 32 Try.underlying26 i1 i2 i3 i4 i5 (by decide) (.slice oS nS cS) nS (S.flatMap encSt) rfl (World.ownsRow.alloc OWN.out _) ⟨Wd.heap.size, 0, none⟩ 1 1 [.string ri, .int .i64 p1, .int .i64 p2] rfl rfl (World.news_of_block HNW.out) (by simp [Value.oneCell']) (by decide) (by simp only [maxLen]; omega) (by omega) (by have := HRL.out; have := BD.out.size; rw [z9]; omega) _ rfl ?_
          intro g cap w5 hown hg hw hlt5
          have own5 : OwnL (R + 1) 89 3 encSt w5 (.slice (some ⟨g, 0, none⟩) (nS + 1) cap) (S ++ [(((p1, p2) : Plc), ri)]) := by show World.ownsRow _ _ _ _ _ (S ++ [(((p1, p2) : Plc), ri)]).length ((S ++ [(((p1, p2) : Plc), ri)]).flatMap encSt); rw [flat_snoc, List.length_append, ← HNS.out]; exact hown
          have hpush := RId.out.push ((Below.refl Wd.heap.size Wd).alloc (Nat.le_refl _) (.cells #[.string ri, .int .i64 p1, .int .i64 p2] (89 : Nat))) hg own5 (by rcases hw with hw | hw; exact Or.inl hw; exact Or.inr (by rw [hw, z9]; omega))
          have hrow5 := RId.out.push_row ((Below.refl Wd.heap.size Wd).alloc (Nat.le_refl _) (.cells #[.string ri, .int .i64 p1, .int .i64 p2] (89 : Nat))) hg
          have hnown : ∀ k, w.heap.size ≤ k → some k ≠ (Value.slice oS nS cS).ownBlock := fun k hk e => by have h1 := (own_geR RI0.out.st k e).2; omega
          have hS5 : Bq #[.int .u64 (rl : Int), .int .u32 (re : Int), .int .i64 2, .int .u64 (rv : Int), .int .u64 (rd : Int), .string ri, .string ra] p1 p2 w.heap.size w5 := ⟨(hg.block _ (lt_of_rowR HSA.out.a) (hnown _ (Nat.le_refl _))).trans HSA.out.a, (hg.block _ (lt_of_rowR HSA.out.b) (hnown _ (Nat.le_succ _))).trans HSA.out.b⟩
          have c05 := (cell_of_row _ _ 0 _ _ _ hrow5).trans (show _ = some (.slice oS nS cS) from rfl)
          have fz5 := frozen_of_row _ _ 0 _ _ hrow5
          have HPUSH := Lib.hid hpush
          have hS6 : Bq #[.int .u64 (rl : Int), .int .u32 (re : Int), .int .i64 2, .int .u64 (rv : Int), .int .u64 (rd : Int), .string ri, .string ra] p1 p2 w.heap.size (w5.setCell ⟨R, 0, none⟩ (.slice (some ⟨g, 0, none⟩) (nS + 1) cap)) := hS5.cell HRL.out
          refine hK.out _ _ hS5 (fun hS5 => ?_)
          clear hK K' hown hg hw hlt5 own5 hpush hrow5 hnown c0 c0a
          refine wpAnyH_take (i := 11) (v := .pointer (some ⟨R, 0, none⟩)) rfl (by kernel_rfl) ?_ ?_ (fun _ _ _ h => h) (Or.inl ⟨by first | kernel_rfl | rfl, ?_⟩) hS5 ?_
          · kernel_rfl
          · kernel_rfl
          · intro V hV; go_simp
          refine wpAnyH_take (i := 12) (v := .pointer (some ⟨R, 0, none⟩)) rfl (by kernel_rfl) ?_ ?_ (fun _ _ _ h => h) (Or.inl ⟨by first | kernel_rfl | rfl, ?_⟩) hS5 ?_
          · kernel_rfl
          · kernel_rfl
          · intro V hV; go_simp
          refine wpAnyH_ready (rs := [13]) (by kernel_rfl) (by simp) ?_
          refine AllReadyH.cons rfl (fun K' hK => ?_) AllReadyH.nil
          go_simp
          refine hK.out _ _ hS6 (fun hS6 => ?_)
          clear hK K' c05 fz5 hS5
          obtain ⟨V, hV⟩ : ∃ W, W = w5.setCell ⟨R, 0, none⟩ (.slice (some ⟨g, 0, none⟩) (nS + 1) cap) := ⟨_, rfl⟩
          rw [← hV] at HPUSH hS6 ⊢
          have RI5 := Lib.hid HPUSH.out.1
          have RA5 := Lib.hid hS6.a
          have RB5 := Lib.hid hS6.b
          have BRV := Lib.hid ((Fw.of_below BD.out).trans (HPUSH.out.2))
          have RLV := Lib.hid (lt_of_rowR RI5.out.row)
          clear hV HPUSH hS6
          refine wpAnyH_done (by kernel_rfl) ?_ _
          have f5 := show V.cell? ⟨w.heap.size, 5, none⟩ = some (.string ri) from (cell_of_row _ _ 5 _ _ _ (((Below.refl V.heap.size V).block _ (lt_of_rowR RA5.out)).trans RA5.out)).trans rfl
          have FV := Lib.hid (rfind_val V R _ vL _ L ri RI5.out (by omega))
          go_wp2_with fail
          refine FV.out.mono ?_; rintro e w6 ⟨⟨k, rfl, hk⟩, hb⟩
          have RI6 := Lib.hid (RI5.out.below hb)
          have BV6 := Lib.hid hb
          have hk2 := find_en HNL.out.en hk
          clear hk hb FV f5
          rcases hk2 with ⟨rfl, hn⟩ | ⟨j, e, hj, rfl, hje, hn⟩
          · go_wp2_with fail
            have hnw : news N (⟨rl, re, 2, rv, rd, ri, ra⟩ : Rec) := fun e he => by rw [show N ri = none from hn] at he; cases he
            have SV := Lib.hid (fun W hW => rset_val W R _ _ _ L ri (⟨rv, rd, false, 31 + (ri.size : Int) + (ra.size : Int), p1, p2⟩ : Ent) (RI6.out.below hW) (by omega))
            have HB := HAB.out.trans (show addB N Q (⟨rl, re, 2, rv, rd, ri, ra⟩ : Rec) (p1, p2) = true from decide_eq_true ⟨HTT.out, hnw⟩)
            have HN := HAN.out.trans (show addN N Q (⟨rl, re, 2, rv, rd, ri, ra⟩ : Rec) (p1, p2) = updM N ri (some (⟨rv, rd, false, 31 + (ri.size : Int) + (ra.size : Int), p1, p2⟩ : Ent)) from if_pos ⟨HTT.out, hnw⟩)
            subst HB HN
            clear hnw hn
            refine Loose.wp_region_quiet_fast (by kernel_rfl) (by kernel_rfl) ?_
            (try simp only [List.append_eq, List.cons_append, List.nil_append])
            repeat (go_big_quiet_step (fail))
            refine wpQuiet_nil ?_
            intro _ hw'
            obtain ⟨⟨dq, osq⟩, hw''⟩ := hw'
            subst hw''
            have bQ := below_regrown w6 dq osq
            obtain ⟨w7, hw7⟩ : ∃ W, W = Go.Sort.grow (Go.redrawn w6 dq) osq := ⟨_, rfl⟩
            rw [← hw7] at bQ
            rw [← hw7]
            have SV7 := Lib.hid (SV.out w7 bQ)
            have B67 := Lib.hid (stepR BV6.out bQ)
            have d2 := show w7.cell? ⟨w.heap.size, 2, none⟩ = some (.int .i64 2) from (cell_of_row _ _ 2 _ _ _ ((B67.out.block _ (lt_of_rowR RA5.out)).trans RA5.out)).trans rfl
            have d3 := show w7.cell? ⟨w.heap.size, 3, none⟩ = some (.int .u64 (rv : Int)) from (cell_of_row _ _ 3 _ _ _ ((B67.out.block _ (lt_of_rowR RA5.out)).trans RA5.out)).trans rfl
            have d4 := show w7.cell? ⟨w.heap.size, 4, none⟩ = some (.int .u64 (rd : Int)) from (cell_of_row _ _ 4 _ _ _ ((B67.out.block _ (lt_of_rowR RA5.out)).trans RA5.out)).trans rfl
            have d5 := show w7.cell? ⟨w.heap.size, 5, none⟩ = some (.string ri) from (cell_of_row _ _ 5 _ _ _ ((B67.out.block _ (lt_of_rowR RA5.out)).trans RA5.out)).trans rfl
            have d6 := show w7.cell? ⟨w.heap.size, 6, none⟩ = some (.string ra) from (cell_of_row _ _ 6 _ _ _ ((B67.out.block _ (lt_of_rowR RA5.out)).trans RA5.out)).trans rfl
            have dp0 := show w7.cell? ⟨w.heap.size + 1, 0, none⟩ = some (.int .i64 p1) from (cell_of_row _ _ 0 _ _ _ ((B67.out.block _ (lt_of_rowR RB5.out)).trans RB5.out)).trans rfl
            have dp1 := show w7.cell? ⟨w.heap.size + 1, 1, none⟩ = some (.int .i64 p2) from (cell_of_row _ _ 1 _ _ _ ((B67.out.block _ (lt_of_rowR RB5.out)).trans RB5.out)).trans rfl
            clear bQ hw7 SV 
            simp only [Ent.row] at SV7
            go_wp2_with fail
            refine SV7.out.mono ?_; rintro e w8 ⟨rfl, ⟨lv, M, hset, hri⟩, hb⟩
            have HM := Lib.hid hset.len
            have NLM := Lib.hid (hset.nl HNL.out)
            have RI8 := Lib.hid hri
            have B8 := Lib.hid ((BRV.out.trans (Fw.of_below B67.out)).trans (hb.mono (fun i _ hh => Or.inl hh)))
            clear hset hri hb SV7 d2 d3 d4 d5 d6 dp0 dp1
            go_wp2_with fail
            go_ret
            exact ⟨rfl, ⟨_, lv, _, M, RI8.out, NLM.out, ENS.out, by rw [List.length_append]; simp, HM.out⟩, B8.out⟩

          · obtain ⟨oL, cL, hvL, hcl⟩ : ∃ oa cap, vL = .slice oa L.length cap ∧ ∀ i (hi : i < L.length), ∃ b off, oa = some ⟨b, off, none⟩ ∧ ∀ j u, (encNw L[i])[j]? = some u → w6.cell? ⟨b, off + i * 7 + j, none⟩ = some u := by
              obtain ⟨oa, cap, h1, _, h2⟩ := own_lr (k := 7) (enc := encNw) (fun _ => rfl) RI6.out.ls
              exact ⟨oa, cap, h1, h2⟩
            obtain ⟨nL, hnL⟩ : ∃ z, z = L.length := ⟨_, rfl⟩
            have hjn : (j : Int) < (nL : Int) := by omega
            have hjn' : j < nL := by omega
            have hjg : (j : Int) ≥ 0 := by omega
            rw [← hnL] at hvL
            obtain ⟨b, off, hoL, hc⟩ := hcl j hj
            rw [hje] at hc
            have x1 := cell_regrown (hc 1 _ rfl)
            have hrow := RI6.out.row
            rw [hvL] at hrow
            have c1 := cell_regrown ((cell_of_row _ _ 1 _ _ _ hrow).trans (show _ = some (.slice oL nL cL) from rfl))
            have b3 := cell_regrown (show w6.cell? ⟨w.heap.size, 3, none⟩ = some (.int .u64 (rv : Int)) from (cell_of_row _ _ 3 _ _ _ ((BV6.out.block _ (lt_of_rowR RA5.out)).trans RA5.out)).trans rfl)
            subst hvL
            subst hoL
            have HNLL := Lib.hid hnL
            clear hcl hc hrow hje hnL
            by_cases hvv : rv < e.ver
            · have v1 : ((e.ver : Int) > (rv : Int)) = True := eq_true (by omega)
              have v2 : (rv < e.ver) = True := eq_true hvv
              have v3 : decide ((e.ver : Int) > (rv : Int)) = true := decide_eq_true (by omega)
              have hnn : ¬ news N (⟨rl, re, 2, rv, rd, ri, ra⟩ : Rec) := fun hh => by have := hh e hn; exact absurd hvv (Nat.not_lt.2 this)
              have HB := HAB.out.trans (show addB N Q (⟨rl, re, 2, rv, rd, ri, ra⟩ : Rec) (p1, p2) = false from decide_eq_false (fun h => hnn h.2))
              have HN := HAN.out.trans (show addN N Q (⟨rl, re, 2, rv, rd, ri, ra⟩ : Rec) (p1, p2) = N from if_neg (fun h => hnn h.2))
              subst HB HN
              clear hnn hn hvv
              obtain ⟨ever, hever⟩ : ∃ z, z = e.ver := ⟨_, rfl⟩
              rw [← hever] at x1 v1 v2 v3
              clear hever
              go_wp2_with fail
              refine Loose.wp_region_quiet_fast (by kernel_rfl) (by kernel_rfl) ?_
              (try simp only [List.append_eq, List.cons_append, List.nil_append])
              repeat (go_big_quiet_step (fail))
              refine wpQuiet_nil ?_
              intro _ hw'
              obtain ⟨⟨dq, osq⟩, hw''⟩ := hw'
              subst hw''
              have bQ := below_regrown w6 dq osq
              have B67 := Lib.hid (stepR BV6.out bQ)
              have RI7 := Lib.hid (RI6.out.below bQ)
              clear bQ x1 c1 b3 v1 v2 v3
              go_wp2_with fail
              go_ret
              exact ⟨rfl, ⟨_, _, _, L, RI7.out, HNL.out, ENS.out, by rw [List.length_append]; simp, by omega⟩, BRV.out.trans (Fw.of_below B67.out)⟩
            · have v1 : ((e.ver : Int) > (rv : Int)) = False := eq_false (by omega)
              have v2 : (rv < e.ver) = False := eq_false hvv
              have v3 : decide ((e.ver : Int) > (rv : Int)) = false := decide_eq_false (by omega)
              have hev : e.ver ≤ rv := by omega
              obtain ⟨ever, hever⟩ : ∃ z, z = e.ver := ⟨_, rfl⟩
              have NW : Hid (news N (⟨rl, re, 2, rv, rd, ri, ra⟩ : Rec)) := Lib.hid (fun e' he' => by rw [show N ri = some e from hn] at he'; rw [← Option.some.inj he']; exact hev)
              rw [← hever] at x1 v1 v2 v3
              clear hever hev hvv
              go_wp2_with fail
              have hnw : news N (⟨rl, re, 2, rv, rd, ri, ra⟩ : Rec) := NW.out
              have SV := Lib.hid (fun W hW => rset_val W R _ _ _ L ri (⟨rv, rd, false, 31 + (ri.size : Int) + (ra.size : Int), p1, p2⟩ : Ent) (RI6.out.below hW) (by omega))
              have HB := HAB.out.trans (show addB N Q (⟨rl, re, 2, rv, rd, ri, ra⟩ : Rec) (p1, p2) = true from decide_eq_true ⟨HTT.out, hnw⟩)
              have HN := HAN.out.trans (show addN N Q (⟨rl, re, 2, rv, rd, ri, ra⟩ : Rec) (p1, p2) = updM N ri (some (⟨rv, rd, false, 31 + (ri.size : Int) + (ra.size : Int), p1, p2⟩ : Ent)) from if_pos ⟨HTT.out, hnw⟩)
              subst HB HN
              clear hnw hn
              refine Loose.wp_region_quiet_fast (by kernel_rfl) (by kernel_rfl) ?_
              (try simp only [List.append_eq, List.cons_append, List.nil_append])
              repeat (go_big_quiet_step (fail))
              refine wpQuiet_nil ?_
              intro _ hw'
              obtain ⟨⟨dq, osq⟩, hw''⟩ := hw'
              subst hw''
              have bQ := below_regrown w6 dq osq
              obtain ⟨w7, hw7⟩ : ∃ W, W = Go.Sort.grow (Go.redrawn w6 dq) osq := ⟨_, rfl⟩
              rw [← hw7] at bQ
              rw [← hw7]
              have SV7 := Lib.hid (SV.out w7 bQ)
              have B67 := Lib.hid (stepR BV6.out bQ)
              have d2 := show w7.cell? ⟨w.heap.size, 2, none⟩ = some (.int .i64 2) from (cell_of_row _ _ 2 _ _ _ ((B67.out.block _ (lt_of_rowR RA5.out)).trans RA5.out)).trans rfl
              have d3 := show w7.cell? ⟨w.heap.size, 3, none⟩ = some (.int .u64 (rv : Int)) from (cell_of_row _ _ 3 _ _ _ ((B67.out.block _ (lt_of_rowR RA5.out)).trans RA5.out)).trans rfl
              have d4 := show w7.cell? ⟨w.heap.size, 4, none⟩ = some (.int .u64 (rd : Int)) from (cell_of_row _ _ 4 _ _ _ ((B67.out.block _ (lt_of_rowR RA5.out)).trans RA5.out)).trans rfl
              have d5 := show w7.cell? ⟨w.heap.size, 5, none⟩ = some (.string ri) from (cell_of_row _ _ 5 _ _ _ ((B67.out.block _ (lt_of_rowR RA5.out)).trans RA5.out)).trans rfl
              have d6 := show w7.cell? ⟨w.heap.size, 6, none⟩ = some (.string ra) from (cell_of_row _ _ 6 _ _ _ ((B67.out.block _ (lt_of_rowR RA5.out)).trans RA5.out)).trans rfl
              have dp0 := show w7.cell? ⟨w.heap.size + 1, 0, none⟩ = some (.int .i64 p1) from (cell_of_row _ _ 0 _ _ _ ((B67.out.block _ (lt_of_rowR RB5.out)).trans RB5.out)).trans rfl
              have dp1 := show w7.cell? ⟨w.heap.size + 1, 1, none⟩ = some (.int .i64 p2) from (cell_of_row _ _ 1 _ _ _ ((B67.out.block _ (lt_of_rowR RB5.out)).trans RB5.out)).trans rfl
              clear bQ hw7 SV x1 c1 b3 v1 v2 v3
              simp only [Ent.row] at SV7
              go_wp2_with fail
              refine SV7.out.mono ?_; rintro e w8 ⟨rfl, ⟨lv, M, hset, hri⟩, hb⟩
              have HM := Lib.hid hset.len
              have NLM := Lib.hid (hset.nl HNL.out)
              have RI8 := Lib.hid hri
              have B8 := Lib.hid ((BRV.out.trans (Fw.of_below B67.out)).trans (hb.mono (fun i _ hh => Or.inl hh)))
              clear hset hri hb SV7 d2 d3 d4 d5 d6 dp0 dp1
              go_wp2_with fail
              go_ret
              exact ⟨rfl, ⟨_, lv, _, M, RI8.out, NLM.out, ENS.out, by rw [List.length_append]; simp, HM.out⟩, B8.out⟩


        · go_simp
          refine hK.out _ _ HSA.out (fun _ => ?_)
          clear hK K'
          refine wpAnyH_ready (rs := [4]) (by kernel_rfl) (by simp) ?_
          refine AllReadyH.cons rfl (fun K' hK => ?_) AllReadyH.nil
          go_simp
          refine hK.out _ _ HSA.out (fun _ => ?_)
          clear hK K'
          refine wpAnyH_ready (rs := [10]) (by kernel_rfl) (by simp) ?_
          refine AllReadyH.cons rfl (fun K' hK => ?_) AllReadyH.nil
          refine step_append_lies _ rfl _ _ 26 rfl (R + 1) 89 ii zz 3 32 Try.underlying26 i1 i2 i3 i4 i5 (by decide) (.slice oS nS cS) nS (S.flatMap encSt) rfl (World.ownsRow.alloc OWN.out _) ⟨Wd.heap.size, 0, none⟩ 1 1 [.string ri, .int .i64 p1, .int .i64 p2] rfl rfl (World.news_of_block HNW.out) (by simp [Value.oneCell']) (by decide) (by simp only [maxLen]; omega) (by omega) (by have := HRL.out; have := BD.out.size; rw [z9]; omega) _ rfl ?_
          intro g cap w5 hown hg hw hlt5
          have own5 : OwnL (R + 1) 89 3 encSt w5 (.slice (some ⟨g, 0, none⟩) (nS + 1) cap) (S ++ [(((p1, p2) : Plc), ri)]) := by show World.ownsRow _ _ _ _ _ (S ++ [(((p1, p2) : Plc), ri)]).length ((S ++ [(((p1, p2) : Plc), ri)]).flatMap encSt); rw [flat_snoc, List.length_append, ← HNS.out]; exact hown
          have hpush := RId.out.push ((Below.refl Wd.heap.size Wd).alloc (Nat.le_refl _) (.cells #[.string ri, .int .i64 p1, .int .i64 p2] (89 : Nat))) hg own5 (by rcases hw with hw | hw; exact Or.inl hw; exact Or.inr (by rw [hw, z9]; omega))
          have hrow5 := RId.out.push_row ((Below.refl Wd.heap.size Wd).alloc (Nat.le_refl _) (.cells #[.string ri, .int .i64 p1, .int .i64 p2] (89 : Nat))) hg
          have hnown : ∀ k, w.heap.size ≤ k → some k ≠ (Value.slice oS nS cS).ownBlock := fun k hk e => by have h1 := (own_geR RI0.out.st k e).2; omega
          have hS5 : Bq #[.int .u64 (rl : Int), .int .u32 (re : Int), .int .i64 2, .int .u64 (rv : Int), .int .u64 (rd : Int), .string ri, .string ra] p1 p2 w.heap.size w5 := ⟨(hg.block _ (lt_of_rowR HSA.out.a) (hnown _ (Nat.le_refl _))).trans HSA.out.a, (hg.block _ (lt_of_rowR HSA.out.b) (hnown _ (Nat.le_succ _))).trans HSA.out.b⟩
          have c05 := (cell_of_row _ _ 0 _ _ _ hrow5).trans (show _ = some (.slice oS nS cS) from rfl)
          have fz5 := frozen_of_row _ _ 0 _ _ hrow5
          have HPUSH := Lib.hid hpush
          have hS6 : Bq #[.int .u64 (rl : Int), .int .u32 (re : Int), .int .i64 2, .int .u64 (rv : Int), .int .u64 (rd : Int), .string ri, .string ra] p1 p2 w.heap.size (w5.setCell ⟨R, 0, none⟩ (.slice (some ⟨g, 0, none⟩) (nS + 1) cap)) := hS5.cell HRL.out
          refine hK.out _ _ hS5 (fun hS5 => ?_)
          clear hK K' hown hg hw hlt5 own5 hpush hrow5 hnown c0 c0a
          refine wpAnyH_take (i := 11) (v := .pointer (some ⟨R, 0, none⟩)) rfl (by kernel_rfl) ?_ ?_ (fun _ _ _ h => h) (Or.inl ⟨by first | kernel_rfl | rfl, ?_⟩) hS5 ?_
          · kernel_rfl
          · kernel_rfl
          · intro V hV; go_simp
          refine wpAnyH_take (i := 12) (v := .pointer (some ⟨R, 0, none⟩)) rfl (by kernel_rfl) ?_ ?_ (fun _ _ _ h => h) (Or.inl ⟨by first | kernel_rfl | rfl, ?_⟩) hS5 ?_
          · kernel_rfl
          · kernel_rfl
          · intro V hV; go_simp
          refine wpAnyH_ready (rs := [13]) (by kernel_rfl) (by simp) ?_
          refine AllReadyH.cons rfl (fun K' hK => ?_) AllReadyH.nil
          go_simp
          refine hK.out _ _ hS6 (fun hS6 => ?_)
          clear hK K' c05 fz5 hS5
          obtain ⟨V, hV⟩ : ∃ W, W = w5.setCell ⟨R, 0, none⟩ (.slice (some ⟨g, 0, none⟩) (nS + 1) cap) := ⟨_, rfl⟩
          rw [← hV] at HPUSH hS6 ⊢
          have RI5 := Lib.hid HPUSH.out.1
          have RA5 := Lib.hid hS6.a
          have RB5 := Lib.hid hS6.b
          have BRV := Lib.hid ((Fw.of_below BD.out).trans (HPUSH.out.2))
          have RLV := Lib.hid (lt_of_rowR RI5.out.row)
          clear hV HPUSH hS6
          refine wpAnyH_done (by kernel_rfl) ?_ _
          have f5 := show V.cell? ⟨w.heap.size, 5, none⟩ = some (.string ri) from (cell_of_row _ _ 5 _ _ _ (((Below.refl V.heap.size V).block _ (lt_of_rowR RA5.out)).trans RA5.out)).trans rfl
          have FV := Lib.hid (rfind_val V R _ vL _ L ri RI5.out (by omega))
          go_wp2_with fail
          refine FV.out.mono ?_; rintro e w6 ⟨⟨k, rfl, hk⟩, hb⟩
          have RI6 := Lib.hid (RI5.out.below hb)
          have BV6 := Lib.hid hb
          have hk2 := find_en HNL.out.en hk
          clear hk hb FV f5
          rcases hk2 with ⟨rfl, hn⟩ | ⟨j, e, hj, rfl, hje, hn⟩
          · go_wp2_with fail
            have hnw : news N (⟨rl, re, 2, rv, rd, ri, ra⟩ : Rec) := fun e he => by rw [show N ri = none from hn] at he; cases he
            have SV := Lib.hid (fun W hW => rset_val W R _ _ _ L ri (⟨rv, rd, false, 31 + (ri.size : Int) + (ra.size : Int), p1, p2⟩ : Ent) (RI6.out.below hW) (by omega))
            have HB := HAB.out.trans (show addB N Q (⟨rl, re, 2, rv, rd, ri, ra⟩ : Rec) (p1, p2) = true from decide_eq_true ⟨HTT.out, hnw⟩)
            have HN := HAN.out.trans (show addN N Q (⟨rl, re, 2, rv, rd, ri, ra⟩ : Rec) (p1, p2) = updM N ri (some (⟨rv, rd, false, 31 + (ri.size : Int) + (ra.size : Int), p1, p2⟩ : Ent)) from if_pos ⟨HTT.out, hnw⟩)
            subst HB HN
            clear hnw hn
            refine Loose.wp_region_quiet_fast (by kernel_rfl) (by kernel_rfl) ?_
            (try simp only [List.append_eq, List.cons_append, List.nil_append])
            repeat (go_big_quiet_step (fail))
            refine wpQuiet_nil ?_
            intro _ hw'
            obtain ⟨⟨dq, osq⟩, hw''⟩ := hw'
            subst hw''
            have bQ := below_regrown w6 dq osq
            obtain ⟨w7, hw7⟩ : ∃ W, W = Go.Sort.grow (Go.redrawn w6 dq) osq := ⟨_, rfl⟩
            rw [← hw7] at bQ
            rw [← hw7]
            have SV7 := Lib.hid (SV.out w7 bQ)
            have B67 := Lib.hid (stepR BV6.out bQ)
            have d2 := show w7.cell? ⟨w.heap.size, 2, none⟩ = some (.int .i64 2) from (cell_of_row _ _ 2 _ _ _ ((B67.out.block _ (lt_of_rowR RA5.out)).trans RA5.out)).trans rfl
            have d3 := show w7.cell? ⟨w.heap.size, 3, none⟩ = some (.int .u64 (rv : Int)) from (cell_of_row _ _ 3 _ _ _ ((B67.out.block _ (lt_of_rowR RA5.out)).trans RA5.out)).trans rfl
            have d4 := show w7.cell? ⟨w.heap.size, 4, none⟩ = some (.int .u64 (rd : Int)) from (cell_of_row _ _ 4 _ _ _ ((B67.out.block _ (lt_of_rowR RA5.out)).trans RA5.out)).trans rfl
            have d5 := show w7.cell? ⟨w.heap.size, 5, none⟩ = some (.string ri) from (cell_of_row _ _ 5 _ _ _ ((B67.out.block _ (lt_of_rowR RA5.out)).trans RA5.out)).trans rfl
            have d6 := show w7.cell? ⟨w.heap.size, 6, none⟩ = some (.string ra) from (cell_of_row _ _ 6 _ _ _ ((B67.out.block _ (lt_of_rowR RA5.out)).trans RA5.out)).trans rfl
            have dp0 := show w7.cell? ⟨w.heap.size + 1, 0, none⟩ = some (.int .i64 p1) from (cell_of_row _ _ 0 _ _ _ ((B67.out.block _ (lt_of_rowR RB5.out)).trans RB5.out)).trans rfl
            have dp1 := show w7.cell? ⟨w.heap.size + 1, 1, none⟩ = some (.int .i64 p2) from (cell_of_row _ _ 1 _ _ _ ((B67.out.block _ (lt_of_rowR RB5.out)).trans RB5.out)).trans rfl
            clear bQ hw7 SV 
            simp only [Ent.row] at SV7
            go_wp2_with fail
            refine SV7.out.mono ?_; rintro e w8 ⟨rfl, ⟨lv, M, hset, hri⟩, hb⟩
            have HM := Lib.hid hset.len
            have NLM := Lib.hid (hset.nl HNL.out)
            have RI8 := Lib.hid hri
            have B8 := Lib.hid ((BRV.out.trans (Fw.of_below B67.out)).trans (hb.mono (fun i _ hh => Or.inl hh)))
            clear hset hri hb SV7 d2 d3 d4 d5 d6 dp0 dp1
            go_wp2_with fail
            go_ret
            exact ⟨rfl, ⟨_, lv, _, M, RI8.out, NLM.out, ENS.out, by rw [List.length_append]; simp, HM.out⟩, B8.out⟩

          · obtain ⟨oL, cL, hvL, hcl⟩ : ∃ oa cap, vL = .slice oa L.length cap ∧ ∀ i (hi : i < L.length), ∃ b off, oa = some ⟨b, off, none⟩ ∧ ∀ j u, (encNw L[i])[j]? = some u → w6.cell? ⟨b, off + i * 7 + j, none⟩ = some u := by
              obtain ⟨oa, cap, h1, _, h2⟩ := own_lr (k := 7) (enc := encNw) (fun _ => rfl) RI6.out.ls
              exact ⟨oa, cap, h1, h2⟩
            obtain ⟨nL, hnL⟩ : ∃ z, z = L.length := ⟨_, rfl⟩
            have hjn : (j : Int) < (nL : Int) := by omega
            have hjn' : j < nL := by omega
            have hjg : (j : Int) ≥ 0 := by omega
            rw [← hnL] at hvL
            obtain ⟨b, off, hoL, hc⟩ := hcl j hj
            rw [hje] at hc
            have x1 := cell_regrown (hc 1 _ rfl)
            have hrow := RI6.out.row
            rw [hvL] at hrow
            have c1 := cell_regrown ((cell_of_row _ _ 1 _ _ _ hrow).trans (show _ = some (.slice oL nL cL) from rfl))
            have b3 := cell_regrown (show w6.cell? ⟨w.heap.size, 3, none⟩ = some (.int .u64 (rv : Int)) from (cell_of_row _ _ 3 _ _ _ ((BV6.out.block _ (lt_of_rowR RA5.out)).trans RA5.out)).trans rfl)
            subst hvL
            subst hoL
            have HNLL := Lib.hid hnL
            clear hcl hc hrow hje hnL
            by_cases hvv : rv < e.ver
            · have v1 : ((e.ver : Int) > (rv : Int)) = True := eq_true (by omega)
              have v2 : (rv < e.ver) = True := eq_true hvv
              have v3 : decide ((e.ver : Int) > (rv : Int)) = true := decide_eq_true (by omega)
              have hnn : ¬ news N (⟨rl, re, 2, rv, rd, ri, ra⟩ : Rec) := fun hh => by have := hh e hn; exact absurd hvv (Nat.not_lt.2 this)
              have HB := HAB.out.trans (show addB N Q (⟨rl, re, 2, rv, rd, ri, ra⟩ : Rec) (p1, p2) = false from decide_eq_false (fun h => hnn h.2))
              have HN := HAN.out.trans (show addN N Q (⟨rl, re, 2, rv, rd, ri, ra⟩ : Rec) (p1, p2) = N from if_neg (fun h => hnn h.2))
              subst HB HN
              clear hnn hn hvv
              obtain ⟨ever, hever⟩ : ∃ z, z = e.ver := ⟨_, rfl⟩
              rw [← hever] at x1 v1 v2 v3
              clear hever
              go_wp2_with fail
              refine Loose.wp_region_quiet_fast (by kernel_rfl) (by kernel_rfl) ?_
              (try simp only [List.append_eq, List.cons_append, List.nil_append])
              repeat (go_big_quiet_step (fail))
              refine wpQuiet_nil ?_
              intro _ hw'
              obtain ⟨⟨dq, osq⟩, hw''⟩ := hw'
              subst hw''
              have bQ := below_regrown w6 dq osq
              have B67 := Lib.hid (stepR BV6.out bQ)
              have RI7 := Lib.hid (RI6.out.below bQ)
              clear bQ x1 c1 b3 v1 v2 v3
              go_wp2_with fail
              go_ret
              exact ⟨rfl, ⟨_, _, _, L, RI7.out, HNL.out, ENS.out, by rw [List.length_append]; simp, by omega⟩, BRV.out.trans (Fw.of_below B67.out)⟩
            · have v1 : ((e.ver : Int) > (rv : Int)) = False := eq_false (by omega)
              have v2 : (rv < e.ver) = False := eq_false hvv
              have v3 : decide ((e.ver : Int) > (rv : Int)) = false := decide_eq_false (by omega)
              have hev : e.ver ≤ rv := by omega
              obtain ⟨ever, hever⟩ : ∃ z, z = e.ver := ⟨_, rfl⟩
              have NW : Hid (news N (⟨rl, re, 2, rv, rd, ri, ra⟩ : Rec)) := Lib.hid (fun e' he' => by rw [show N ri = some e from hn] at he'; rw [← Option.some.inj he']; exact hev)
              rw [← hever] at x1 v1 v2 v3
              clear hever hev hvv
              go_wp2_with fail
              have hnw : news N (⟨rl, re, 2, rv, rd, ri, ra⟩ : Rec) := NW.out
              have SV := Lib.hid (fun W hW => rset_val W R _ _ _ L ri (⟨rv, rd, false, 31 + (ri.size : Int) + (ra.size : Int), p1, p2⟩ : Ent) (RI6.out.below hW) (by omega))
              have HB := HAB.out.trans (show addB N Q (⟨rl, re, 2, rv, rd, ri, ra⟩ : Rec) (p1, p2) = true from decide_eq_true ⟨HTT.out, hnw⟩)
              have HN := HAN.out.trans (show addN N Q (⟨rl, re, 2, rv, rd, ri, ra⟩ : Rec) (p1, p2) = updM N ri (some (⟨rv, rd, false, 31 + (ri.size : Int) + (ra.size : Int), p1, p2⟩ : Ent)) from if_pos ⟨HTT.out, hnw⟩)
              subst HB HN
              clear hnw hn
              refine Loose.wp_region_quiet_fast (by kernel_rfl) (by kernel_rfl) ?_
              (try simp only [List.append_eq, List.cons_append, List.nil_append])
              repeat (go_big_quiet_step (fail))
              refine wpQuiet_nil ?_
              intro _ hw'
              obtain ⟨⟨dq, osq⟩, hw''⟩ := hw'
              subst hw''
              have bQ := below_regrown w6 dq osq
              obtain ⟨w7, hw7⟩ : ∃ W, W = Go.Sort.grow (Go.redrawn w6 dq) osq := ⟨_, rfl⟩
              rw [← hw7] at bQ
              rw [← hw7]
              have SV7 := Lib.hid (SV.out w7 bQ)
              have B67 := Lib.hid (stepR BV6.out bQ)
              have d2 := show w7.cell? ⟨w.heap.size, 2, none⟩ = some (.int .i64 2) from (cell_of_row _ _ 2 _ _ _ ((B67.out.block _ (lt_of_rowR RA5.out)).trans RA5.out)).trans rfl
              have d3 := show w7.cell? ⟨w.heap.size, 3, none⟩ = some (.int .u64 (rv : Int)) from (cell_of_row _ _ 3 _ _ _ ((B67.out.block _ (lt_of_rowR RA5.out)).trans RA5.out)).trans rfl
              have d4 := show w7.cell? ⟨w.heap.size, 4, none⟩ = some (.int .u64 (rd : Int)) from (cell_of_row _ _ 4 _ _ _ ((B67.out.block _ (lt_of_rowR RA5.out)).trans RA5.out)).trans rfl
              have d5 := show w7.cell? ⟨w.heap.size, 5, none⟩ = some (.string ri) from (cell_of_row _ _ 5 _ _ _ ((B67.out.block _ (lt_of_rowR RA5.out)).trans RA5.out)).trans rfl
              have d6 := show w7.cell? ⟨w.heap.size, 6, none⟩ = some (.string ra) from (cell_of_row _ _ 6 _ _ _ ((B67.out.block _ (lt_of_rowR RA5.out)).trans RA5.out)).trans rfl
              have dp0 := show w7.cell? ⟨w.heap.size + 1, 0, none⟩ = some (.int .i64 p1) from (cell_of_row _ _ 0 _ _ _ ((B67.out.block _ (lt_of_rowR RB5.out)).trans RB5.out)).trans rfl
              have dp1 := show w7.cell? ⟨w.heap.size + 1, 1, none⟩ = some (.int .i64 p2) from (cell_of_row _ _ 1 _ _ _ ((B67.out.block _ (lt_of_rowR RB5.out)).trans RB5.out)).trans rfl
              clear bQ hw7 SV x1 c1 b3 v1 v2 v3
              simp only [Ent.row] at SV7
              go_wp2_with fail
              refine SV7.out.mono ?_; rintro e w8 ⟨rfl, ⟨lv, M, hset, hri⟩, hb⟩
              have HM := Lib.hid hset.len
              have NLM := Lib.hid (hset.nl HNL.out)
              have RI8 := Lib.hid hri
              have B8 := Lib.hid ((BRV.out.trans (Fw.of_below B67.out)).trans (hb.mono (fun i _ hh => Or.inl hh)))
              clear hset hri hb SV7 d2 d3 d4 d5 d6 dp0 dp1
              go_wp2_with fail
              go_ret
              exact ⟨rfl, ⟨_, lv, _, M, RI8.out, NLM.out, ENS.out, by rw [List.length_append]; simp, HM.out⟩, B8.out⟩



      · have hT : ¬ takes Q (⟨rl, re, rk, rv, rd, ri, ra⟩ : Rec) (p1, p2) := fun h => h.2.elim hk1 hk2
        have eB : addB N Q (⟨rl, re, rk, rv, rd, ri, ra⟩ : Rec) (p1, p2) = false := decide_eq_false (fun h => hT h.1)
        have eN : addN N Q (⟨rl, re, rk, rv, rd, ri, ra⟩ : Rec) (p1, p2) = N := if_neg (fun h => hT h.1)
        have eQ : addQ Q (⟨rl, re, rk, rv, rd, ri, ra⟩ : Rec) (p1, p2) = Q := if_neg hT
        have HB := HAB.out.trans eB
        have HN := HAN.out.trans eN
        have HQ := HAQ.out.trans eQ
        subst HB HN HQ
        clear eB eN eQ hT

        have b2 := show w2.cell? ⟨w.heap.size, 2, none⟩ = some (.int .i64 rk) from (cell_of_row _ _ 2 _ _ _ ((B12.out.block _ (lt_of_rowR ROWA.out)).trans ROWA.out)).trans rfl
        have g1 : (rk != 1) = true := bne_iff_ne.2 hk1
        have g2 : (rk != 2) = true := bne_iff_ne.2 hk2
        have g3 : (rk = 1) = False := eq_false hk1
        have g4 : (rk = 2) = False := eq_false hk2
        clear hk1 hk2 hq
        go_wp2_with fail
        go_ret
        exact ⟨rfl, ⟨vS, vL, S, L, RI2.out, HNL.out, HQE.out, by omega, by omega⟩, Fw.of_below B02.out⟩
  · have hq : Q (p1, p2) = some S[j].2 := by rw [← hjp]; exact (HQE.out.2 _ _).1 (List.getElem_mem hj)
    have hT : ¬ takes Q (⟨rl, re, rk, rv, rd, ri, ra⟩ : Rec) (p1, p2) := fun h => by have := h.1; rw [hq] at this; cases this
    have eB : addB N Q (⟨rl, re, rk, rv, rd, ri, ra⟩ : Rec) (p1, p2) = false := decide_eq_false (fun h => hT h.1)
    have eN : addN N Q (⟨rl, re, rk, rv, rd, ri, ra⟩ : Rec) (p1, p2) = N := if_neg (fun h => hT h.1)
    have eQ : addQ Q (⟨rl, re, rk, rv, rd, ri, ra⟩ : Rec) (p1, p2) = Q := if_neg hT
    have HB := HAB.out.trans eB
    have HN := HAN.out.trans eN
    have HQ := HAQ.out.trans eQ
    subst HB HN HQ
    clear eB eN eQ hT

    obtain ⟨sj, hsj⟩ : ∃ x, x = S[j].2 := ⟨_, rfl⟩
    rw [← hsj]
    clear hsj hq hjp
    go_wp2_with fail
    go_ret
    exact ⟨rfl, ⟨vS, vL, S, L, RI2.out, HNL.out, HQE.out, by omega, by omega⟩, Fw.of_below B02.out⟩
end Go.Proofs.Ythpompgcnemanaa.G
