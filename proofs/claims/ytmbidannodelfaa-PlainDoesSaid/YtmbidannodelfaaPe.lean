/- Do, as one function of what the store holds. -/
import Derived.Test.YtmbidannodelfaaPd
namespace Go.Proofs.Ytmbidannodelfaa.G
open Go.RowKit Go.Maps Go.Proofs.Ytmbidannodelfaa.WordPlain Go.Proofs.Ytmbidannodelfaa.Loose
set_option linter.unusedVariables false
set_option linter.unusedSimpArgs false

theorem PL.mono {w : World} {p b n m now : Nat} {q : Int} {f : ByteArray → Option Ses} (h : PL w p b n now q f) (hm : n ≤ m) : PL w p b m now q f := ⟨h.cells, h.map.mono hm, h.ids, h.nlt⟩
/-- what is told, where so many live -/
def doR (now : Nat) (q : Int) (f : ByteArray → Option Ses) (c : Nat) (r : Rq) : Rp :=
  if validE r ≠ 0 then Rp.bad (validE r)
  else if r.kind = 0 then (if liv now f r.id then Rp.bad 4 else if q ≤ (c : Int) then Rp.bad 7 else ⟨0, ⟨#[]⟩, ddl now r⟩)
  else if liv now f r.id = false then Rp.bad 3
  else if r.kind = 1 then ⟨0, ((f r.id).getD Ses.zero).va, ((f r.id).getD Ses.zero).dl⟩
  else if r.kind = 2 then ⟨0, ⟨#[]⟩, ddl now r⟩
  else Rp.bad 0
/-- what it holds then -/
def doF (now : Nat) (q : Int) (f : ByteArray → Option Ses) (c : Nat) (r : Rq) : ByteArray → Option Ses :=
  if validE r ≠ 0 then f
  else if r.kind = 0 then (if liv now f r.id then f else if q ≤ (c : Int) then f else upd f r.id (some ⟨r.id, r.va, ddl now r⟩))
  else if liv now f r.id = false then f
  else if r.kind = 1 then f
  else if r.kind = 2 then upd f r.id (some ⟨r.id, ((f r.id).getD Ses.zero).va, ddl now r⟩)
  else if r.kind = 3 then upd f r.id (some ⟨r.id, r.va, ((f r.id).getD Ses.zero).dl⟩)
  else upd f r.id none
theorem valid_kind (r : Rq) (h : validE r = 0) : 0 ≤ r.kind ∧ r.kind < 5 := by
  unfold validE at h
  by_cases h1 : r.kind < 0 ∨ 5 ≤ r.kind ∨ idB r.id = false
  · rw [if_pos h1] at h; cases h
  · omega
theorem liv_some {now : Nat} {f : ByteArray → Option Ses} {k : ByteArray} (h : liv now f k = true) : ∃ s, f k = some s ∧ now < s.dl := by
  unfold liv at h
  cases hs : f k with
  | none => rw [hs] at h; cases h
  | some s => rw [hs] at h; exact ⟨s, rfl, by simpa using h⟩
theorem Do_val (w : World) (p b n now : Nat) (q : Int) (f : ByteArray → Option Ses) (r : Rq) (L : List Ses) (h : PL w p b n now q f) (hr : r.Kind) (hn : n < 1000000) (hL : IsSes now f L) :
    Calls Try.prog 14 #[.pointer (some ⟨p, 0, none⟩), .agg r.row] w fun e w' => e = .returned (.agg (doR now q f L.length r).row) ∧ PL w' p b (n + 1) now q (doF now q f L.length r) ∧ Mp p b w w' := by
  have up : ∀ {y : Rp} {m : Nat} {g : ByteArray → Option Ses}, m ≤ n + 1 → (Calls Try.prog 14 #[.pointer (some ⟨p, 0, none⟩), .agg r.row] w fun e w' => e = .returned (.agg y.row) ∧ PL w' p b m now q g ∧ Mp p b w w') →
      Calls Try.prog 14 #[.pointer (some ⟨p, 0, none⟩), .agg r.row] w fun e w' => e = .returned (.agg y.row) ∧ PL w' p b (n + 1) now q g ∧ Mp p b w w' := fun hm h => h.mono fun e w' ⟨a, b, c⟩ => ⟨a, b.mono hm, c⟩
  unfold doR doF
  by_cases hv : validE r ≠ 0
  · rw [if_pos hv, if_pos hv]
    exact up (Nat.le_succ _) (Do_bad w p b n now q f r _ h hr rfl (bne_iff_ne.2 hv))
  rw [if_neg hv, if_neg hv]
  have hv0 : validE r = 0 := Decidable.not_not.1 hv
  obtain ⟨k0, k5⟩ := valid_kind r hv0
  by_cases hk : r.kind = 0
  · rw [if_pos hk, if_pos hk]
    by_cases hl : liv now f r.id = true
    · rw [if_pos hl, if_pos hl]
      exact up (Nat.le_succ _) (Do_0 w p b n n now q f f r _ true h hr hv0 hk hl (fun W hW => create_twice W p b n now q f r hW hr hl))
    · have hl' : liv now f r.id = false := by simpa using hl
      rw [if_neg hl, if_neg hl]
      by_cases hq : q ≤ (L.length : Int)
      · rw [if_pos hq, if_pos hq]
        exact up (Nat.le_succ _) (Do_0 w p b n n now q f f r _ false h hr hv0 hk hl' (fun W hW => create_quota W p b n now q f r L hW hr (by omega) hl' hL hq))
      · rw [if_neg hq, if_neg hq]
        exact Do_0 w p b n (n + 1) now q f _ r _ false h hr hv0 hk hl' (fun W hW => create_ok W p b n now q f r L hW hr hn hl' hL hq)
  rw [if_neg hk, if_neg hk]
  by_cases hl : liv now f r.id = false
  · rw [if_pos hl, if_pos hl]
    exact up (Nat.le_succ _) (Do_none w p b n now q f r h hr hv0 (bne_iff_ne.2 hk) hl)
  rw [if_neg hl, if_neg hl]
  have hl' : liv now f r.id = true := by simpa using hl
  obtain ⟨s, hs, _⟩ := liv_some hl'
  rw [hs, Option.getD_some]
  by_cases k1 : r.kind = 1
  · rw [if_pos k1, if_pos k1]
    exact up (Nat.le_succ _) (Do_1 w p b n n now q f f r _ h hr hv0 k1 hl' (fun W hW => get_val W p b n now q f r s hW hr hs))
  rw [if_neg k1, if_neg k1]
  by_cases k2 : r.kind = 2
  · rw [if_pos k2, if_pos k2]
    exact Do_2 w p b n (n + 1) now q f _ r _ h hr hv0 k2 hl' (fun W hW => touch_val W p b n now q f r s hW hr hn hs)
  rw [if_neg k2, if_neg k2]
  by_cases k3 : r.kind = 3
  · rw [if_pos k3]
    exact Do_3 w p b n (n + 1) now q f _ r _ h hr hv0 k3 hl' (fun W hW => put_val W p b n now q f r s hW hr hn hs)
  rw [if_neg k3]
  exact up (Nat.le_succ _) (Do_4 w p b n n now q f _ r _ h hr hv0 (by omega) hl' (fun W hW => destroy_val W p b n now q f r hW hr))
end Go.Proofs.Ytmbidannodelfaa.G
