/- The document's store: what put and destroy leave; Do, as one function of what it holds; Tick. -/
import Derived.Test.YtmbidannodelfaaQg
import Derived.Sort.Walk0
namespace Go.Proofs.Ytmbidannodelfaa.G
open Go.RowKit Go.Maps Go.Proofs.Ytmbidannodelfaa.WordPlain Go.Proofs.Ytmbidannodelfaa.Loose
set_option linter.unusedVariables false
set_option linter.unusedSimpArgs false

theorem bless (a b : ByteArray) : Op.bytesLess a.toList b.toList = decide (bl8 a < bl8 b) := by rw [Go.Proofs.bytesLess_eq, ByteArray.toList_eq, ByteArray.toList_eq]
theorem nbeq (a b : ByteArray) : (!(a.toList == b.toList)) = true ↔ a ≠ b := by
  rcases beqQ a b with ⟨h, e⟩ | ⟨h, e⟩
  · rw [h]; exact ⟨(fun h => by cases h), fun h => absurd e h⟩
  · rw [h]; exact ⟨fun _ => e, fun _ => rfl⟩
theorem irr8 (x : List UInt8) : ¬ x < x := List.lt_irrefl x
theorem tot8 {x y : List UInt8} (h : ¬ x < y) (hne : x ≠ y) : y < x := by
  have h1 : y ≤ x := List.not_lt.1 h
  rcases Decidable.em (y < x) with h2 | h2
  · exact h2
  · exact absurd (List.le_antisymm (List.not_lt.1 h2) h1) hne
/-- what put leaves is the list of what lives -/
theorem PutR.is {now : Nat} {s : Ses} {L M : List Ses} {f : ByteArray → Option Ses} (h : PutR now s L M) (hL : IsSes now f L) : IsSes now (upd f s.id (some s)) M ∧ M.length ≤ L.length + 1 := by
  obtain ⟨r, hr, hlo, hst, rfl⟩ := h
  have hsp := hL.sorted
  have hAB : L.take r ++ L.drop r = L := List.take_append_drop r L
  rw [← hAB] at hsp
  obtain ⟨hA, hB, hX⟩ := List.pairwise_append.1 hsp
  have hAs : ∀ a ∈ L.take r, bl8 a.id < bl8 s.id := by
    intro a ha
    obtain ⟨j, hj, rfl⟩ := List.mem_iff_getElem.1 ha
    rw [List.length_take] at hj
    rw [List.getElem_take]
    have := hlo j (by omega) (by omega)
    rw [bless] at this
    exact of_decide_eq_true this
  have hBs : ∀ b ∈ L.drop r, b.id ≠ s.id → bl8 s.id < bl8 b.id := by
    intro b hb hne
    obtain ⟨j, hj, rfl⟩ := List.mem_iff_getElem.1 hb
    rw [List.length_drop] at hj
    have h0 := hst (by omega)
    rw [bless] at h0
    have h0' : ¬ bl8 L[r].id < bl8 s.id := of_decide_eq_false h0
    rw [List.getElem_drop] at hne ⊢
    by_cases hj0 : j = 0
    · subst hj0
      simp only [Nat.add_zero] at hne ⊢
      exact tot8 h0' (fun e => hne (bl8_inj e))
    · have hlt : bl8 L[r].id < bl8 L[r + j].id := List.pairwise_iff_getElem.1 hL.sorted r (r + j) (by omega) (by omega) (by omega)
      by_cases e : L[r].id = s.id
      · rw [← e]; exact hlt
      · exact List.lt_trans (tot8 h0' (fun h => e (bl8_inj h))) hlt
  constructor
  · constructor
    · refine List.Pairwise.filter _ ?_
      rw [List.pairwise_append]
      refine ⟨?_, hB.filter _, ?_⟩
      · rw [List.pairwise_append]
        exact ⟨hA, List.pairwise_singleton _ _, fun a ha b hb => by rw [List.mem_singleton] at hb; subst hb; exact hAs a ha⟩
      · intro a ha b hb
        rw [List.mem_filter] at hb
        rcases List.mem_append.1 ha with ha | ha
        · exact hX a ha b hb.1
        · rw [List.mem_singleton] at ha; subst ha
          exact hBs b hb.1 ((nbeq _ _).1 hb.2)
    · intro x
      rw [List.mem_filter, List.mem_append, List.mem_append, List.mem_singleton, List.mem_filter, decide_eq_true_eq]
      unfold upd
      have hm : x ∈ L ↔ x ∈ L.take r ∨ x ∈ L.drop r := by rw [← List.mem_append, hAB]
      constructor
      · rintro ⟨(ha | rfl) | ⟨hb, hne⟩, hd⟩
        · have hne : x.id ≠ s.id := fun e => irr8 (bl8 s.id) (by have := hAs x ha; rw [e] at this; exact this)
          rw [if_neg hne]
          exact (hL.mem x).1 (hm.2 (Or.inl ha))
        · rw [if_pos rfl]; exact ⟨rfl, hd⟩
        · rw [if_neg ((nbeq _ _).1 hne)]
          exact (hL.mem x).1 (hm.2 (Or.inr hb))
      · rintro ⟨h1, hd⟩
        by_cases hx : x.id = s.id
        · rw [if_pos hx] at h1; injection h1 with h1; exact ⟨Or.inl (Or.inr h1.symm), hd⟩
        · rw [if_neg hx] at h1
          rcases hm.1 ((hL.mem x).2 ⟨h1, hd⟩) with h | h
          · exact ⟨Or.inl (Or.inl h), hd⟩
          · exact ⟨Or.inr ⟨h, (nbeq _ _).2 hx⟩, hd⟩
  · refine Nat.le_trans (List.length_filter_le _ _) ?_
    rw [List.length_append, List.length_append, List.length_take, List.length_singleton]
    have := List.length_filter_le (fun x : Ses => !(x.id.toList == s.id.toList)) (L.drop r)
    rw [List.length_drop] at this
    omega
/-- what destroy leaves -/
theorem IsSes.cut {now m : Nat} {f : ByteArray → Option Ses} {L : List Ses} (hL : IsSes now f L) (hm : m < L.length) : IsSes now (upd f L[m].id none) (L.take m ++ L.drop (m + 1)) := by
  have hsp := hL.sorted
  have hAB : L.take m ++ L[m] :: L.drop (m + 1) = L := by rw [List.getElem_cons_drop, List.take_append_drop]
  obtain ⟨s, hs⟩ : ∃ s, s = L[m] := ⟨_, rfl⟩
  rw [← hs] at hAB ⊢
  rw [← hAB] at hsp
  obtain ⟨hA, hB, hX⟩ := List.pairwise_append.1 hsp
  obtain ⟨hS, hB⟩ := List.pairwise_cons.1 hB
  constructor
  · rw [List.pairwise_append]
    exact ⟨hA, hB, fun a ha b hb => hX a ha b (List.mem_cons_of_mem _ hb)⟩
  · intro x
    have hmem : x ∈ L ↔ x ∈ L.take m ∨ x = s ∨ x ∈ L.drop (m + 1) := by rw [← List.mem_cons, ← List.mem_append, hAB]
    rw [List.mem_append]
    unfold upd
    constructor
    · intro h
      have hne : x.id ≠ s.id := by
        intro e
        rcases h with h | h
        · have := hX x h s (List.mem_cons_self ..); rw [e] at this; exact irr8 _ this
        · have := hS x h; rw [e] at this; exact irr8 _ this
      rw [if_neg hne]
      exact (hL.mem x).1 (hmem.2 (h.elim Or.inl (fun h => Or.inr (Or.inr h))))
    · rintro ⟨h1, hd⟩
      by_cases hx : x.id = s.id
      · rw [if_pos hx] at h1; cases h1
      · rw [if_neg hx] at h1
        rcases hmem.1 ((hL.mem x).2 ⟨h1, hd⟩) with h | rfl | h
        · exact Or.inl h
        · exact absurd rfl hx
        · exact Or.inr h
theorem IsSes.later {now u : Nat} {f : ByteArray → Option Ses} {L : List Ses} (hL : IsSes now f L) (hu : now ≤ u) : IsSes u f (L.filter fun s => decide (u < s.dl)) := by
  refine ⟨hL.sorted.filter _, fun s => ?_⟩
  rw [List.mem_filter, hL.mem, decide_eq_true_eq]
  exact ⟨fun h => ⟨h.1.1, h.2⟩, fun h => ⟨⟨h.1, by omega⟩, h.2⟩⟩
theorem IsSes.nodup2 {now : Nat} {f : ByteArray → Option Ses} {L : List Ses} (h : IsSes now f L) : L.Nodup := h.sorted.imp fun {a b} h e => by subst e; exact List.lt_irrefl _ h
theorem findA {now : Nat} {f : ByteArray → Option Ses} {L : List Ses} {id : ByteArray} (hL : IsSes now f L) (hz : liv now f id = false) {k : Int} (h : FindR id L k) : k = -1 := by
  rcases h with ⟨h, _⟩ | ⟨i, hi, rfl, e⟩
  · exact h
  · have := (hL.mem _).1 (List.getElem_mem hi)
    rw [e] at this
    unfold liv at hz
    rw [this.1] at hz
    simp only [decide_eq_false_iff_not] at hz
    exact absurd this.2 hz
theorem findB {now m : Nat} {f : ByteArray → Option Ses} {L : List Ses} {id : ByteArray} (hL : IsSes now f L) (hm : m < L.length) (hid : L[m].id = id) {k : Int} (h : FindR id L k) : k = (m : Int) := by
  rcases h with ⟨_, h⟩ | ⟨i, hi, rfl, e⟩
  · exact absurd hid (h _ (List.getElem_mem hm))
  · have h1 := ((hL.mem _).1 (List.getElem_mem hi)).1
    have h2 := ((hL.mem _).1 (List.getElem_mem hm)).1
    rw [e] at h1
    rw [hid, h1] at h2
    injection h2 with h2
    have := (List.getElem_inj hL.nodup2).1 h2
    rw [this]
theorem rDo_val (w : World) (P now : Nat) (q : Int) (f : ByteArray → Option Ses) (L : List Ses) (r : Rq) (h : RPl w P now q L) (hr : r.Kind) (hnow : now < 18446744073709551616) (hL : IsSes now f L) (hid : ∀ k s, f k = some s → s.id = k) (hl : L.length ≤ 100000) :
    Calls Try.prog 15 #[.pointer (some ⟨P, 0, none⟩), .agg r.row] w fun e w' => e = .returned (.agg (doR now q f L.length r).row) ∧ (∃ M, IsSes now (doF now q f L.length r) M ∧ M.length ≤ L.length + 1 ∧ RPl w' P now q M) ∧ Mp P P w w' := by
  have same : ∀ {y : Rp}, (Calls Try.prog 15 #[.pointer (some ⟨P, 0, none⟩), .agg r.row] w fun e w' => e = .returned (.agg y.row) ∧ RPl w' P now q L ∧ Mp P P w w') →
      Calls Try.prog 15 #[.pointer (some ⟨P, 0, none⟩), .agg r.row] w fun e w' => e = .returned (.agg y.row) ∧ (∃ M, IsSes now f M ∧ M.length ≤ L.length + 1 ∧ RPl w' P now q M) ∧ Mp P P w w' := fun h => h.mono fun e w' ⟨a, b, c⟩ => ⟨a, ⟨L, hL, Nat.le_succ _, b⟩, c⟩
  have put : ∀ {y : Rp} {s : Ses} {g : ByteArray → Option Ses}, g = upd f s.id (some s) → (Calls Try.prog 15 #[.pointer (some ⟨P, 0, none⟩), .agg r.row] w fun e w' => e = .returned (.agg y.row) ∧ (∃ M, PutR now s L M ∧ RPl w' P now q M) ∧ Mp P P w w') →
      Calls Try.prog 15 #[.pointer (some ⟨P, 0, none⟩), .agg r.row] w fun e w' => e = .returned (.agg y.row) ∧ (∃ M, IsSes now g M ∧ M.length ≤ L.length + 1 ∧ RPl w' P now q M) ∧ Mp P P w w' := fun hg h => h.mono fun e w' ⟨a, ⟨M, b, c⟩, d⟩ => ⟨a, ⟨M, by rw [hg]; exact (b.is hL).1, (b.is hL).2, c⟩, d⟩
  unfold doR doF
  by_cases hv : validE r ≠ 0
  · rw [if_pos hv, if_pos hv]
    exact same (rDo_bad w P now q L r _ h hr rfl (bne_iff_ne.2 hv))
  rw [if_neg hv, if_neg hv]
  have hv0 : validE r = 0 := Decidable.not_not.1 hv
  obtain ⟨k0, k5⟩ := valid_kind r hv0
  have fnd : ∀ W, RPl W P now q L → _ := fun W hW => rFind_val W P now q L r.id hW (by omega)
  have none_ : liv now f r.id = false → ∀ W, RPl W P now q L → Calls Try.prog 35 #[.pointer (some ⟨P, 0, none⟩), .string r.id] W fun e w' => e = .returned (.int .i64 (-1)) ∧ Below W.heap.size W w' :=
    fun hz W hW => (fnd W hW).mono fun e w' ⟨⟨k, a, b⟩, c⟩ => ⟨by rw [a, findA hL hz b], c⟩
  have some_ : ∀ m (hm : m < L.length), L[m].id = r.id → ∀ W, RPl W P now q L → Calls Try.prog 35 #[.pointer (some ⟨P, 0, none⟩), .string r.id] W fun e w' => e = .returned (.int .i64 (m : Int)) ∧ Below W.heap.size W w' :=
    fun m hm hi W hW => (fnd W hW).mono fun e w' ⟨⟨k, a, b⟩, c⟩ => ⟨by rw [a, findB hL hm hi b], c⟩
  have at_ : liv now f r.id = true → ∃ m, ∃ hm : m < L.length, L[m].id = r.id ∧ (f r.id).getD Ses.zero = L[m] := by
    intro hz
    obtain ⟨s, hs, hd⟩ := liv_some hz
    have hi := hid _ _ hs
    have hmem : s ∈ L := (hL.mem s).2 ⟨by rw [hi]; exact hs, hd⟩
    obtain ⟨m, hm, e⟩ := List.mem_iff_getElem.1 hmem
    exact ⟨m, hm, by rw [e]; exact hi, by rw [hs, e]; rfl⟩
  by_cases hk : r.kind = 0
  · rw [if_pos hk, if_pos hk]
    by_cases hz : liv now f r.id = true
    · rw [if_pos hz, if_pos hz]
      obtain ⟨m, hm, hi, _⟩ := at_ hz
      exact same (rDo_twice w P now _ q L r m h hr hnow hl rfl hv0 hk (some_ m hm hi))
    · have hz' : liv now f r.id = false := by simpa using hz
      rw [if_neg hz, if_neg hz]
      by_cases hq : q ≤ (L.length : Int)
      · rw [if_pos hq, if_pos hq]
        exact same (rDo_quota w P now _ q L r h hr hnow hl rfl hv0 hk (none_ hz') hq)
      · rw [if_neg hq, if_neg hq]
        exact put (s := ⟨r.id, r.va, ddl now r⟩) rfl (rDo_create w P now _ q L r h hr hnow hl rfl hv0 hk (none_ hz') hq)
  rw [if_neg hk, if_neg hk]
  by_cases hz : liv now f r.id = false
  · rw [if_pos hz, if_pos hz]
    exact same (rDo_none w P now _ q L r h hr hnow hl rfl hv0 (beq_eq_false_iff_ne.2 hk) (none_ hz))
  rw [if_neg hz, if_neg hz]
  have hz' : liv now f r.id = true := by simpa using hz
  obtain ⟨m, hm, hi, hg⟩ := at_ hz'
  rw [hg]
  by_cases k1 : r.kind = 1
  · rw [if_pos k1, if_pos k1]
    exact same (rDo_get w P now _ q L r m hm _ rfl h hr hnow hl rfl hv0 k1 (some_ m hm hi))
  rw [if_neg k1, if_neg k1]
  by_cases k2 : r.kind = 2
  · rw [if_pos k2, if_pos k2]
    exact put (s := ⟨L[m].id, L[m].va, ddl now r⟩) (by rw [hi]) (rDo_touch w P now _ q L r m hm _ rfl h hr hnow hl rfl hv0 k2 (some_ m hm hi))
  rw [if_neg k2, if_neg k2]
  by_cases k3 : r.kind = 3
  · rw [if_pos k3]
    exact put (s := ⟨L[m].id, r.va, L[m].dl⟩) (by rw [hi]) (rDo_put w P now _ q L r m hm _ rfl h hr hnow hl rfl hv0 k3 (some_ m hm hi))
  rw [if_neg k3]
  refine (rDo_destroy w P now _ q L r m hm _ rfl h hr hnow hl rfl hv0 (by omega) (some_ m hm hi)).mono fun e w' ⟨a, b, c⟩ => ⟨a, ⟨_, ?_, ?_, b⟩, c⟩
  · rw [← hi]; exact hL.cut hm
  · rw [List.length_append, List.length_take, List.length_drop]; omega

theorem RPl.time {W : World} {P now : Nat} {q : Int} {L : List Ses} (h : RPl W P now q L) (u : Nat) : RPl (W.setCell ⟨P, 0, none⟩ (.int .u64 (u : Int))) P u q L := by
  obtain ⟨v, hb, oa, cap, h1, h2, h3⟩ := h
  refine ⟨v, ?_, oa, cap, h1, h2, fun i hi => ?_⟩
  · rw [heap_setCell_same _ _ _ _ _ _ hb]; rfl
  · obtain ⟨b', off, h4, h5⟩ := h3 i hi
    have h50 := h5 0 _ rfl
    have hp : b' ≠ P := by
      rintro rfl
      rw [cell_of_row W b' (off + i * 3 + 0) _ _ (0, 0) hb] at h50
      match hj : off + i * 3 + 0 with
      | 0 => rw [hj] at h50; cases h50
      | 1 => rw [hj] at h50; cases h50
      | 2 =>
        have h51 := h5 2 _ rfl
        rw [cell_of_row W b' (off + i * 3 + 2) _ _ (0, 0) hb, show off + i * 3 + 2 = 4 by omega] at h51
        simp at h51
      | j + 3 => rw [hj] at h50; simp at h50
    exact ⟨b', off, h4, fun j u hu => (World.cell?_of_block (a := ⟨b', off + i * 3 + j, none⟩) (heap_setCell_other _ _ _ _ hp)).trans (h5 j u hu)⟩

set_option maxRecDepth 100000 in
set_option maxHeartbeats 4000000 in
theorem rTick_val (w : World) (P now : Nat) (q : Int) (L : List Ses) (t u : Nat) (h : RPl w P now q L) (hnow : now < 18446744073709551616) (ht : t < 18446744073709551616) (hu : u = addV now t) (hl : L.length ≤ 100000) :
    Calls Try.prog 12 #[.pointer (some ⟨P, 0, none⟩), .int .u64 (t : Nat)] w fun e w' => e = .returned (.int .i64 (L.length - (L.filter fun s => decide (u < s.dl)).length : Nat)) ∧ RPl w' P u q (L.filter fun s => decide (u < s.dl)) ∧ Mp P P w w' := by
  have l1 := fun W => rLater_val now t u W hnow ht (Lib.hid hu)
  have hll : (L.filter fun s => decide (u < s.dl)).length ≤ L.length := List.length_filter_le _ _
  have drp := rdrop_val (w.setCell ⟨P, 0, none⟩ (.int .u64 (u : Int))) P u q L (h.time u) (by omega)
  obtain ⟨M, hM⟩ : ∃ M, M = L.filter fun s => decide (u < s.dl) := ⟨_, rfl⟩
  rw [← hM] at drp hll ⊢
  have hw : ((L.length : Int) - (M.length : Int)) = ((L.length - M.length : Nat) : Int) := by omega
  have hwr := wrap64_of_small (L.length - M.length) (by omega)
  have m1 := (Mp.refl P P w).self (j := 0) (v := .int .u64 (u : Int))
  obtain ⟨v, hrow, hlr⟩ := h
  obtain ⟨oa, cap, hve⟩ := hlr.form
  obtain ⟨nl, hnl⟩ : ∃ x, x = L.length := ⟨_, rfl⟩
  obtain ⟨nm, hnm⟩ : ∃ x, x = M.length := ⟨_, rfl⟩
  obtain ⟨nd, hnd⟩ : ∃ x, x = nl - nm := ⟨_, rfl⟩
  rw [← hnl] at hve
  subst hve
  rw [← hnl, ← hnm, ← hnd] at hw hwr
  rw [← hnl, ← hnm, ← hnd]
  have c0 := (cell_of_row _ _ 0 _ _ _ hrow).trans (show _ = some (.int .u64 (now : Int)) from rfl)
  have c2 := (cell_of_row _ _ 2 _ _ _ hrow).trans (show _ = some (.slice oa nl cap) from rfl)
  have fz := frozen_of_row _ _ 0 _ _ hrow
  have L1 := Lib.hid l1
  have DRP := Lib.hid drp
  have M1 := Lib.hid m1
  have HNM := Lib.hid hnm
  clear l1 drp m1 hu hl hll hrow hlr hnl hnm hnd hM hnow ht
  go_enter Try.func12, Try.ntmps12
  go_wp2_with fail
  refine (L1.out _).mono ?_; rintro e w1 ⟨rfl, rfl⟩
  go_wp2_with fail
  refine DRP.out.mono ?_; rintro e w3 ⟨rfl, rp, mp⟩
  obtain ⟨v3, hrow3, hlr3⟩ := id rp
  obtain ⟨o3, cap3, hve3⟩ := hlr3.form
  rw [← HNM.out] at hve3
  subst hve3
  have d2 := (cell_of_row _ _ 2 _ _ _ hrow3).trans (show _ = some (.slice o3 nm cap3) from rfl)
  have RP := Lib.hid rp
  have M3 := Lib.hid (M1.out.trans mp)
  clear rp mp hrow3 hlr3 c0 c2 fz
  go_wp2_with fail
  go_ret
  refine ⟨?_, RP.out, M3.out⟩
  go_simp
end Go.Proofs.Ytmbidannodelfaa.G
