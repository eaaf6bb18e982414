/- The document's store: what its block holds; Find. -/
import Derived.Test.YtmbidannodelfaaPh
namespace Go.Proofs.Ytmbidannodelfaa.G
open Go.RowKit Go.Maps Go.Proofs.Ytmbidannodelfaa.WordPlain Go.Proofs.Ytmbidannodelfaa.Loose
set_option linter.unusedVariables false
set_option linter.unusedSimpArgs false

/-- a time, a quota, and the sessions that live, in the block P -/
def RPl (w : World) (P now : Nat) (q : Int) (L : List Ses) : Prop :=
  ∃ v, w.heap[P]? = some (.cells #[.int .u64 (now : Int), .int .i64 q, v] 29 (0, 0)) ∧ LR 3 encS w v L
theorem RPl.below {w w' : World} {P now : Nat} {q : Int} {L : List Ses} (h : RPl w P now q L) (hb : Below w.heap.size w w') : RPl w' P now q L := by
  obtain ⟨v, h1, h2⟩ := h
  exact ⟨v, (hb.block _ (lt_of_rowR h1)).trans h1, h2.below hb (Nat.le_refl _)⟩
theorem RPl.lt {w : World} {P now : Nat} {q : Int} {L : List Ses} (h : RPl w P now q L) : P < w.heap.size := let ⟨_, h, _⟩ := h; lt_of_rowR h
theorem beqQ (a b : ByteArray) : ((a.toList == b.toList) = true ∧ a = b) ∨ ((a.toList == b.toList) = false ∧ a ≠ b) := by
  by_cases h : a = b
  · exact Or.inl ⟨by rw [h]; exact beq_self_eq_true _, h⟩
  · refine Or.inr ⟨beq_eq_false_iff_ne.2 (fun e => h ?_), h⟩
    rw [ByteArray.toList_eq, ByteArray.toList_eq] at e
    cases a; cases b
    simp only [ByteArray.mk.injEq]
    exact Array.toList_inj.1 e
/-- the place of a session -/
def FindR (id : ByteArray) (L : List Ses) (k : Int) : Prop := (k = -1 ∧ ∀ s ∈ L, s.id ≠ id) ∨ ∃ i, ∃ h : i < L.length, k = (i : Int) ∧ L[i].id = id

set_option maxRecDepth 100000 in
set_option maxHeartbeats 4000000 in
theorem rFind_val (w : World) (P now : Nat) (q : Int) (L : List Ses) (id : ByteArray) (h : RPl w P now q L) (hl : L.length ≤ 1000000) :
    Calls Try.prog 35 #[.pointer (some ⟨P, 0, none⟩), .string id] w fun e w' => (∃ k, e = .returned (.int .i64 k) ∧ FindR id L k) ∧ Below w.heap.size w w' := by
  obtain ⟨v, hrow, oa, cap, rfl, _, hx⟩ := h
  obtain ⟨n, hn⟩ : ∃ n, n = L.length := ⟨_, rfl⟩
  rw [← hn] at hrow hl
  have hp := lt_of_rowR hrow
  have c2 : ∀ V, Below w.heap.size w V → V.cell? ⟨P, 2, none⟩ = some (.slice oa n cap) := fun V hV => (cell_of_row _ _ 2 _ _ _ ((hV.block _ hp).trans hrow)).trans rfl
  have HX := Lib.hid hx
  have HN := Lib.hid hn
  have C2 := Lib.hid c2
  clear hx hn hrow hp c2
  go_enter Try.func35, Try.ntmps35
  go_wp2_with fail
  go_loopw [5] (fun i wr => ∃ s : Nat, s ≤ n ∧ i = .int .i64 s ∧ (∀ j (hj : j < L.length), j < s → L[j].id ≠ id) ∧ Below w.heap.size w wr) (fun i _ => n - (intOf i).toNat)
  case atStart => exact ⟨0, by omega, rfl, fun j _ hj => absurd hj (by omega), Below.refl _ _⟩
  case round =>
    obtain ⟨s, hs, rfl, hno, hb⟩ := hrel
    have NO := Lib.hid hno
    have BL := Lib.hid hb
    have c2 := C2.out wr hb
    clear hno hb
    by_cases hlt : s < n
    · have hkn : (s : Int) < (n : Int) := by omega
      have hsl : s < L.length := by have := HN.out; omega
      obtain ⟨b', off, hoa, hcell⟩ := HX.out s hsl
      have hne : ∀ j (hj : j < L.length), j < s + 1 → L[s].id ≠ id → L[j].id ≠ id := fun j hj h1 h2 => by
        by_cases e : j = s
        · subst e; exact h2
        · exact NO.out j hj (by omega)
      have HNE := Lib.hid hne
      have hat : ∀ x, x = L[s] → x.id = id → FindR id L (s : Int) := fun x hx h => Or.inr ⟨s, hsl, rfl, by rw [← hx]; exact h⟩
      have HAT := Lib.hid hat
      obtain ⟨x, hxx⟩ : ∃ x, x = L[s] := ⟨_, rfl⟩
      have HXX := Lib.hid hxx
      rw [← hxx] at hcell
      have hc0 := hcell 0 _ rfl
      have x0 := (BL.out.cell (p := ⟨b', off + s * 3, none⟩) (lt_of_cellR hc0)).trans hc0
      subst hoa
      clear hcell hc0 hne hat hxx
      obtain ⟨xi, xv, xd⟩ := x
      simp only at x0
      rcases beqQ xi id with ⟨q1, q2⟩ | ⟨q1, q2⟩
      · have Q2 := Lib.hid q2
        clear q2
        go_wp2_with fail
        go_ret
        exact ⟨⟨_, rfl, HAT.out _ HXX.out Q2.out⟩, BL.out⟩
      · have Q2 := Lib.hid q2
        clear q2
        go_wp2_with fail
        go_roundw
        case rel => exact ⟨s + 1, by omega, by go_num, fun j hj h1 => HNE.out j hj h1 (by rw [← HXX.out]; exact Q2.out), BL.out⟩
        case measure => simp [intOf]; omega
    · have hkn : ¬ (s : Int) < (n : Int) := by omega
      go_wp2_with fail
      go_ret
      refine ⟨⟨_, rfl, Or.inl ⟨rfl, fun x hx => ?_⟩⟩, BL.out⟩
      obtain ⟨j, hj, rfl⟩ := List.mem_iff_getElem.1 hx
      exact NO.out j hj (by have := HN.out; omega)
end Go.Proofs.Ytmbidannodelfaa.G
