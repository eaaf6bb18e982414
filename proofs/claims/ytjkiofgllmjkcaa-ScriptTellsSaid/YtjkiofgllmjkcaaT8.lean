/- The document's reader: one act, whole; Decode. -/
import Derived.Test.YtjkiofgllmjkcaaT5
import Derived.Test.YtjkiofgllmjkcaaT6
import Derived.Test.YtjkiofgllmjkcaaSb
namespace Go.Proofs.Ytjkiofgllmjkcaa.G
open Go.RowKit Go.Proofs.Ytjkiofgllmjkcaa.WordPlain Go.Proofs.Ytjkiofgllmjkcaa.Loose
set_option linter.unusedVariables false
set_option linter.unusedSimpArgs false

theorem one_val (w : World) (P : Nat) (s : ByteArray) (q : Rst) (h : RdR w P s q) (hq : q.p ≤ s.size) (hs : s.size ≤ 1000000) :
    Calls Try.prog 32 #[.pointer (some ⟨P, 0, none⟩)] w fun e w' => ∃ vk, e = .returned (.agg (Ac.row (oneA s q).1 vk)) ∧ w'.ownsRow w.heap.size 4 1 vk (oneA s q).1.keep.length ((oneA s q).1.keep.map Value.bool) ∧ RdR w' P s (oneA s q).2 ∧ Mq P w w' := by
  by_cases he : (mo s q 5).e = 0
  · have h5 : nm s q 1 ≤ 5 := by
      unfold mo at he
      split at he
      · cases he
      · rename_i hn
        exact Nat.le_of_not_lt (fun hx => hn ⟨he, hx⟩)
    obtain ⟨k, hk⟩ : ∃ k, k = nm s q 1 := ⟨_, rfl⟩
    rw [← hk] at h5
    have hk := hk.symm
    unfold oneA
    simp only [hk, if_neg (show ¬ (mo s q 5).e ≠ 0 by rw [he]; simp)]
    by_cases k0 : k = 0
    · subst k0; rw [if_pos rfl]; exact one_0 w P 0 s q h hq hs hk he
    rw [if_neg k0]
    by_cases k1 : k = 1
    · subst k1; rw [if_pos rfl]; exact one_1 w P 0 s q h hq hs hk he
    rw [if_neg k1]
    by_cases k2 : k = 2
    · subst k2; rw [if_pos rfl]; exact one_2 w P 0 s q h hq hs hk he
    rw [if_neg k2]
    by_cases k4 : k = 4
    · subst k4; rw [if_pos rfl]; exact one_4 w P 0 s q h hq hs hk he
    rw [if_neg k4]
    by_cases k5 : k = 5
    · subst k5; rw [if_pos rfl]; exact one_5 w P 0 s q h hq hs hk he
    rw [if_neg k5]
    have k3 : k = 3 := by omega
    subst k3
    exact one_3 w P 0 s q h hq hs hk he
  · unfold oneA
    simp only [if_pos he]
    exact one_bad w P _ s q h hq hs rfl he
theorem oneA_le (s : ByteArray) (q : Rst) (h : q.p ≤ s.size) : (oneA s q).2.p ≤ s.size := by
  unfold oneA
  have a := mo_le s q 5 h
  simp only
  repeat' split
  all_goals first | exact a | skip
  · exact mo_le _ _ _ (tk_le _ _ _ (tk_le _ _ _ (mo_le _ _ _ (tk_le _ _ _ (mo_le _ _ _ (mo_le _ _ _ a))))))
  · exact tk_le _ _ _ a
  · exact tk_le _ _ _ a
  · exact tk_le _ _ _ a
  · exact tk_le _ _ _ (mo_le _ _ _ (tk_le _ _ _ (bo_le _ _ _ _ (mo_le _ _ _ a))))
theorem bo_len (s : ByteArray) : ∀ (c : Nat) (q : Rst) (K : List Bool), (bo s c q K).2.length ≤ K.length + c
  | 0, q, K => Nat.le_refl _
  | c + 1, q, K => by
    unfold bo
    split
    · have := bo_len s c (mo s q 1) (K ++ [nm s q 1 == 1])
      simp only [List.length_append, List.length_cons, List.length_nil] at this
      omega
    · show K.length ≤ _; omega
theorem oneA_kind (s : ByteArray) (q : Rst) : (oneA s q).1.Kind := by
  have n1 := nm1_lt s
  have n2 := nm2_lt s
  have n8 := nm_lt s
  have tz : ∀ q n, n < 256 → (tb s q n).size ≤ 140737488351232 := fun q n h => Nat.le_trans (tb_size s q n) (by omega)
  have z : (ByteArray.mk #[]).size ≤ 140737488351232 := by decide
  have a1 := n1 q
  unfold oneA
  simp only
  repeat' split
  all_goals refine ⟨?_, ?_, ?_, ?_, ?_, ?_, ?_, ?_, ?_, ?_⟩
  all_goals simp only [Ac.zero]
  all_goals first | exact tz _ _ (n1 _) | exact n8 _ _ | (exact (by decide : ByteArray.empty.size ≤ 140737488351232)) | (have := n1 (mo s q 5); have := bo_len s (nm s (mo s q 5) 1) (mo s (mo s q 5) 255) []; simp only [List.length_nil] at *; omega) | (have := n2 (bo s (nm s (mo s q 5) 1) (mo s (mo s q 5) 255) []).1; omega) | (refine ⟨Int.le_trans (by decide) (Int.natCast_nonneg _), ?_⟩; have h := n1 (mo s q 5); omega) | (refine ⟨Int.le_trans (by decide) (Int.natCast_nonneg _), ?_⟩; exact Int.lt_of_lt_of_le (Int.ofNat_lt.2 (n1 _)) (by decide)) | omega

/-- the worlds of a reading -/
structure Rdi (w wr : World) (s : ByteArray) (q : Rst) (lv : Value) (acc : List Ac) (vks : List Value) : Prop where
  rd : RdR wr w.heap.size s q
  bel : Below w.heap.size w wr
  own : wr.ownsRow (w.heap.size + 1) 47 10 lv acc.length (rows acc vks)
  len : vks.length = acc.length
  keep : ∀ i (h : i < acc.length) (h' : i < vks.length), wr.ownsRow (w.heap.size + 1) 4 1 vks[i] acc[i].keep.length (acc[i].keep.map Value.bool)
  ne : ∀ i (h : i < vks.length) k, some k = (vks[i]).ownBlock → some k ≠ lv.ownBlock
theorem Rdi.call {w wr w' : World} {s : ByteArray} {q q' : Rst} {lv : Value} {acc : List Ac} {vks : List Value} (h : Rdi w wr s q lv acc vks) (hr : RdR w' w.heap.size s q') (hm : Mq w.heap.size wr w') : Rdi w w' s q' lv acc vks :=
  ⟨hr, h.bel.trans (hm.below (Nat.le_refl _) h.bel.size), mq_own hm h.own (by omega), h.len, fun i a b => mq_own hm (h.keep i a b) (by omega), h.ne⟩
theorem Rdi.below {w wr w' : World} {s : ByteArray} {q : Rst} {lv : Value} {acc : List Ac} {vks : List Value} (h : Rdi w wr s q lv acc vks) (hb : Below wr.heap.size wr w') : Rdi w w' s q lv acc vks := h.call (h.rd.below hb) (Mq.of_below hb)
theorem Rdi.push {w wr W1 w2 : World} {s : ByteArray} {q : Rst} {lv : Value} {acc : List Ac} {vks : List Value} (h : Rdi w wr s q lv acc vks) (hb : Below wr.heap.size wr W1) (a : Ac) (vk : Value) (hk : wr.ownsRow (w.heap.size + 1) 4 1 vk a.keep.length (a.keep.map Value.bool)) (hne : ∀ k, some k = vk.ownBlock → some k ≠ lv.ownBlock) (b cap : Nat)
    (hown : w2.ownsRow (w.heap.size + 1) 47 10 (.slice (some ⟨b, 0, none⟩) (acc.length + 1) cap) (acc.length + 1) (rows acc vks ++ (a.row vk).toList)) (hg : W1.grownBy w2 lv.ownBlock) (hw : lv.ownBlock = some b ∨ b = W1.heap.size) :
    Rdi w w2 s q (.slice (some ⟨b, 0, none⟩) (acc.length + 1) cap) (acc ++ [a]) (vks ++ [vk]) := by
  have hsz := hb.size
  have hl := lt_of_rowQ h.rd
  have nC : ∀ k, k < w.heap.size + 1 → some k ≠ lv.ownBlock := fun k hk e => by have := (own_geS h.own k e).1; omega
  have st : ∀ k, k < w.heap.size + 1 → k < wr.heap.size → w2.heap[k]? = wr.heap[k]? := fun k hk hl => (hg.block _ (by omega) (nC _ hk)).trans (hb.block _ hl)
  have kp : ∀ (v : Value) (l : List Bool), wr.ownsRow (w.heap.size + 1) 4 1 v l.length (l.map Value.bool) → (∀ k, some k = v.ownBlock → some k ≠ lv.ownBlock) → w2.ownsRow (w.heap.size + 1) 4 1 v l.length (l.map Value.bool) := fun v l ho hn =>
    (World.ownsRow.kept ho (grown_belowS hb) (apartS (by simp))).kept hg (apartS hn)
  have vb : ∀ (v : Value) (l : List Bool), wr.ownsRow (w.heap.size + 1) 4 1 v l.length (l.map Value.bool) → (∀ k, some k = v.ownBlock → some k ≠ lv.ownBlock) → ∀ k, some k = v.ownBlock → some k ≠ some b := fun v l ho hn k hk e => by
    rcases hw with hw | hw
    · exact hn k hk (by rw [hw]; exact e)
    · have := (own_geS ho k hk).2; have := Option.some.inj e; omega
  refine ⟨(st _ (by omega) hl).trans h.rd, ?_, ?_, by rw [List.length_append, List.length_append, h.len]; rfl, ?_, ?_⟩
  · exact (below_step h.bel hb).trans (below_grownS hg (fun k hk => by have := (own_geS h.own k hk).1; omega) (by have := h.bel.size; omega))
  · rw [rows_snoc _ _ _ _ h.len, List.length_append]
    exact hown
  · intro i h1 h2
    by_cases hi : i < acc.length
    · rw [List.getElem_append_left (by rw [h.len]; exact hi), List.getElem_append_left hi]
      exact kp _ _ (h.keep i hi (by rw [h.len]; exact hi)) (h.ne i (by rw [h.len]; exact hi))
    · have e1 : (vks ++ [vk])[i] = vk := by rw [List.getElem_append_right (by rw [h.len]; omega)]; simp
      have e2 : (acc ++ [a])[i] = a := by rw [List.getElem_append_right (by omega)]; simp
      rw [e1, e2]
      exact kp _ _ hk hne
  · intro i h1 k hk2 e
    by_cases hi : i < vks.length
    · rw [List.getElem_append_left hi] at hk2
      exact vb _ _ (h.keep i (by rw [← h.len]; exact hi) hi) (h.ne i hi) k hk2 e
    · rw [List.getElem_append_right (by omega)] at hk2
      simp at hk2
      exact vb _ _ hk hne k hk2 e
theorem SA.of_Rdi {w wr : World} {s : ByteArray} {q : Rst} {lv : Value} {acc : List Ac} {vks : List Value} (h : Rdi w wr s q lv acc vks) : SA wr lv acc := by
  have hown := h.own
  have hlen := h.len
  rcases hown.2 with ⟨e, h0⟩ | ⟨b, cap, cur, e, _, hh, hc, _, hs, ht⟩
  · exact Or.inl ⟨List.length_eq_zero_iff.1 h0, none, 0, e⟩
  · by_cases h0 : acc = []
    · subst h0
      exact Or.inl ⟨rfl, _, cap, e⟩
    · refine Or.inr ⟨h0, b, 0, cap, e, hc, fun i hi => ⟨vks[i]'(by rw [hlen]; exact hi), Sb.of_ownB (h.keep i hi (by rw [hlen]; exact hi)), ?_⟩⟩
      have f : ∀ j, j < 10 → wr.cell? ⟨b, 0 + i * 10 + j, none⟩ = (acc[i].row (vks[i]'(by rw [hlen]; exact hi))).toList[j]? := fun j hj => by
        rw [Nat.zero_add, cell_of_row _ _ _ _ _ _ hh, ← rows_at acc vks i j hlen hi hj, ← ht]
        rw [List.getElem?_take_of_lt (by omega)]
        simp
      exact ⟨f 0 (by omega), f 1 (by omega), f 2 (by omega), f 3 (by omega), f 4 (by omega), f 5 (by omega), f 6 (by omega), f 7 (by omega), f 8 (by omega), f 9 (by omega)⟩
theorem ract_info : ∃ i z, Try.prog.info? 47 = some i ∧ i.zero = some z ∧ i.size = 10 ∧ i.bytes = 112 ∧ z.cells.size = 10 := by
  have h : (Try.prog.info? 47).map (fun i => (i.zero.map (·.cells.size), i.size, i.bytes)) = some (some 10, 10, 112) := by kernel_rfl
  cases hq : Try.prog.info? 47 with
  | none => rw [hq] at h; cases h
  | some i =>
    rw [hq] at h; simp at h
    obtain ⟨⟨z, hz, hz2⟩, h3, h4⟩ := h
    exact ⟨i, z, rfl, hz, h3, h4, hz2⟩
end Go.Proofs.Ytjkiofgllmjkcaa.G
