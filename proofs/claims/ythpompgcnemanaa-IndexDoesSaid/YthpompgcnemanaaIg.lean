/- The index: a segment that is gone. -/
import Derived.Test.YthpompgcnemanaaIj
namespace Go.Proofs.Ythpompgcnemanaa.G
open Go.RowKit Go.Maps Go.Proofs.Ythpompgcnemanaa.WordPlain Go.Proofs.Ythpompgcnemanaa.Loose
set_option linter.unusedVariables false
set_option linter.unusedSimpArgs false

def gonG (sg : Int) (p : Plc × ByteArray) : Int := if p.1.1 = sg then 1 else 0
theorem gonG_b (sg : Int) (p : Plc × ByteArray) : 0 ≤ gonG sg p ∧ gonG sg p ≤ 1 := by unfold gonG; split <;> omega
/-- what stands when these are still to come -/
def goneQ (Q : Plc → Option ByteArray) (sg : Int) (left : Plc → Bool) : Plc → Option ByteArray := fun p => if p.1 = sg ∧ left p = false then none else Q p
def goneN (N : ByteArray → Option Ent) (Q : Plc → Option ByteArray) (sg : Int) (left : Plc → Bool) : ByteArray → Option Ent := fun i => match N i with
  | some e => if e.seg = sg ∧ left e.at_ = false ∧ Q e.at_ = some i then none else some e
  | none => none
theorem ite_iff {p q : Prop} [Decidable p] [Decidable q] {α : Type} (h : p ↔ q) (a b : α) : (if p then a else b) = if q then a else b := by
  by_cases hp : p
  · rw [if_pos hp, if_pos (h.1 hp)]
  · rw [if_neg hp, if_neg (fun hq => hp (h.2 hq))]
theorem less_iff {left : Plc → Bool} {x p : Plc} : (fun z => left z && !decide (z = x)) p = false ↔ left p = false ∨ p = x := by
  show (left p && !decide (p = x)) = false ↔ _
  by_cases h : p = x <;> cases left p <;> simp [h]
theorem goneQ_start (Q : Plc → Option ByteArray) (sg : Int) : goneQ Q sg (fun p => (Q p).isSome) = Q := by
  funext p
  unfold goneQ
  split
  · rename_i h
    cases hq : Q p with
    | none => rfl
    | some s => have h2 : (Q p).isSome = false := h.2; rw [hq] at h2; cases h2
  · rfl
theorem goneN_start (N : ByteArray → Option Ent) (Q : Plc → Option ByteArray) (sg : Int) : goneN N Q sg (fun p => (Q p).isSome) = N := by
  funext i
  unfold goneN
  cases hn : N i with
  | none => rfl
  | some e =>
    simp only
    rw [if_neg]
    rintro ⟨_, h2, h3⟩
    have h2 : (Q e.at_).isSome = false := h2
    rw [h3] at h2
    cases h2
theorem goneQ_at {Q : Plc → Option ByteArray} {sg : Int} {left : Plc → Bool} {x : Plc} (h : left x = true) : goneQ Q sg left x = Q x := if_neg (fun hh => by rw [h] at hh; cases hh.2)
theorem goneQ_far {Q : Plc → Option ByteArray} {sg : Int} {left : Plc → Bool} {x : Plc} (h : x.1 ≠ sg) : goneQ Q sg (fun z => left z && !decide (z = x)) = goneQ Q sg left := by
  funext p
  unfold goneQ
  refine ite_iff ?_ _ _
  rw [less_iff]
  constructor
  · rintro ⟨h1, h2 | h2⟩
    · exact ⟨h1, h2⟩
    · exact absurd h1 (by rw [h2]; exact h)
  · exact fun h => ⟨h.1, Or.inl h.2⟩
theorem goneQ_near {Q : Plc → Option ByteArray} {sg : Int} {left : Plc → Bool} {x : Plc} (h : x.1 = sg) : updM (goneQ Q sg left) x none = goneQ Q sg (fun z => left z && !decide (z = x)) := by
  funext p
  by_cases hp : p = x
  · subst hp
    rw [updM_same]
    unfold goneQ
    rw [if_pos ⟨h, less_iff.2 (Or.inr rfl)⟩]
  · rw [updM_other hp]
    unfold goneQ
    refine ite_iff ?_ _ _
    rw [less_iff]
    constructor
    · exact fun h => ⟨h.1, Or.inl h.2⟩
    · rintro ⟨h1, h2 | h2⟩
      · exact ⟨h1, h2⟩
      · exact absurd h2 hp
theorem goneN_far {N : ByteArray → Option Ent} {Q : Plc → Option ByteArray} {sg : Int} {left : Plc → Bool} {x : Plc} {c : ByteArray} (hc : Q x = some c) (h : ∀ e, N c = some e → e.at_ = x → e.seg ≠ sg) :
    goneN N Q sg (fun z => left z && !decide (z = x)) = goneN N Q sg left := by
  funext i
  unfold goneN
  cases hn : N i with
  | none => rfl
  | some e =>
    refine ite_iff ?_ _ _
    rw [less_iff]
    constructor
    · rintro ⟨h1, h2 | h2, h3⟩
      · exact ⟨h1, h2, h3⟩
      · rw [h2, hc] at h3
        rw [← Option.some.inj h3] at hn
        exact absurd h1 (h e hn h2)
    · exact fun h => ⟨h.1, Or.inl h.2.1, h.2.2⟩
theorem goneN_near {N : ByteArray → Option Ent} {Q : Plc → Option ByteArray} {sg : Int} {left : Plc → Bool} {x : Plc} {c : ByteArray} {e : Ent} (hc : Q x = some c) (hn : N c = some e) (he : e.at_ = x) (hs : e.seg = sg) :
    updM (goneN N Q sg left) c none = goneN N Q sg (fun z => left z && !decide (z = x)) := by
  funext i
  by_cases hi : i = c
  · subst hi
    rw [updM_same]
    unfold goneN
    rw [hn]
    exact (if_pos ⟨hs, less_iff.2 (Or.inr he), by rw [he]; exact hc⟩).symm
  · rw [updM_other hi]
    unfold goneN
    cases hn' : N i with
    | none => rfl
    | some e' =>
      refine ite_iff ?_ _ _
      rw [less_iff]
      constructor
      · exact fun h => ⟨h.1, Or.inl h.2.1, h.2.2⟩
      · rintro ⟨h1, h2 | h2, h3⟩
        · exact ⟨h1, h2, h3⟩
        · rw [h2, hc] at h3
          exact absurd (Option.some.inj h3).symm hi
theorem goneN_of {N : ByteArray → Option Ent} {Q : Plc → Option ByteArray} {sg : Int} {left : Plc → Bool} {c : ByteArray} {e : Ent} (h : goneN N Q sg left c = some e) : N c = some e := by
  unfold goneN at h
  cases hn : N c with
  | none => rw [hn] at h; cases h
  | some e' =>
    rw [hn] at h
    simp only at h
    split at h
    · cases h
    · exact h
theorem goneN_keep {N : ByteArray → Option Ent} {Q : Plc → Option ByteArray} {sg : Int} {left : Plc → Bool} {c : ByteArray} {e : Ent} (hn : N c = some e) (h : left e.at_ = true) : goneN N Q sg left c = some e := by
  unfold goneN
  rw [hn]
  simp only
  rw [if_neg (fun hh => by rw [h] at hh; cases hh.2.1)]
theorem strike2 {x : Plc} (left : Plc → Bool) : (fun z => (fun z => left z && !decide (z = x)) z && !decide (z = x)) = fun z => left z && !decide (z = x) := by
  funext z
  show ((left z && !decide (z = x)) && !decide (z = x)) = (left z && !decide (z = x))
  cases left z <;> cases decide (z = x) <;> rfl
/-- what stands then -/
def goneQ1 (Q : Plc → Option ByteArray) (sg : Int) : Plc → Option ByteArray := fun p => if p.1 = sg then none else Q p
def goneN1 (N : ByteArray → Option Ent) (Q : Plc → Option ByteArray) (sg : Int) : ByteArray → Option Ent := fun i => match N i with
  | some e => if e.seg = sg ∧ Q e.at_ = some i then none else some e
  | none => none
theorem goneQ_end {Q : Plc → Option ByteArray} {sg : Int} {left : Plc → Bool} (h : ∀ p s, Q p = some s → left p = false) : goneQ Q sg left = goneQ1 Q sg := by
  funext p
  unfold goneQ goneQ1
  by_cases hs : p.1 = sg
  · rw [if_pos hs]
    cases hq : Q p with
    | none => split <;> rfl
    | some s => rw [if_pos ⟨hs, h p s hq⟩]
  · rw [if_neg hs, if_neg (fun hh => hs hh.1)]
theorem goneN_end {N : ByteArray → Option Ent} {Q : Plc → Option ByteArray} {sg : Int} {left : Plc → Bool} (h : ∀ p s, Q p = some s → left p = false) : goneN N Q sg left = goneN1 N Q sg := by
  funext i
  unfold goneN goneN1
  cases hn : N i with
  | none => rfl
  | some e =>
    simp only
    by_cases hs : e.seg = sg ∧ Q e.at_ = some i
    · rw [if_pos hs, if_pos ⟨hs.1, h _ _ hs.2, hs.2⟩]
    · rw [if_neg hs, if_neg (fun hh => hs ⟨hh.1, hh.2.2⟩)]

set_option maxRecDepth 100000 in
set_option maxHeartbeats 8000000 in
theorem IGone_val (w : World) (X bn bp n m : Nat) (N : ByteArray → Option Ent) (Q : Plc → Option ByteArray) (sg : Int) (h : Ix w X bn bp n m N Q) (hm : m ≤ 1000000) (hid : ∀ p s, Q p = some s → s.size ≤ 140737488351232) :
    Calls Try.prog 22 #[.pointer (some ⟨X, 0, none⟩), .int .i64 sg] w fun e w' => (∃ c : Int, e = .returned (.int .i64 c) ∧ ∀ L, En Q L → c = (L.map (gonG sg)).sum) ∧ Ix w' X bn bp n m (goneN1 N Q sg) (goneQ1 Q sg) ∧ Mq bn bp w w' := by
  obtain ⟨L, hL, hLl⟩ := h.plcs.enum kP_law
  have EN := Lib.hid hL
  have LL := Lib.hid hLl
  have HI := Lib.hid h
  have HQ := Lib.hid h.plcs
  have HID := Lib.hid hid
  have c1 := h.c1
  have hall : ∀ L', En Q L' → (L.map (gonG sg)).sum = (L'.map (gonG sg)).sum := fun L' h' => sum_perm (hL.perm h')
  have HALL := Lib.hid hall
  clear hL hLl h hall hid
  go_enter Try.func22, Try.ntmps22
  go_wp2_with (at_range; refine wpList_range_mp kP_law rfl _ rfl rfl HQ.out ?_; intro w1 cnt hrg hb1)
  clear c1
  have RG := Lib.hid hrg
  have B1 := Lib.hid hb1
  clear hrg hb1
  go_frame
  go_loopw [5] (fun c wr => ∃ (left : Plc → Bool) (cnt : Nat) (z : Int), c = .int .i64 z ∧ z = todo left (gonG sg) L ∧ kP.Rg Try.prog 36 wr bp w.heap.size m (goneQ Q sg left) left cnt ∧ Ix wr X bn bp n m (goneN N Q sg left) (goneQ Q sg left) ∧ Mq bn bp w wr) (fun _ wr => wr.rangeLeft bp w.heap.size)
  case atStart => exact ⟨_, _, 0, rfl, (todo_none (left := fun p => (Q p).isSome) fun p hp => by show (Q p.1).isSome = true; rw [(EN.out.2 p.1 p.2).1 hp]; rfl).symm, by rw [goneQ_start]; exact RG.out, by rw [goneQ_start, goneN_start]; exact HI.out.below B1.out, Mq.of_below B1.out⟩
  case round =>
    obtain ⟨left, cnt, z, rfl, hz, hrg, hix, hmq⟩ := hrel
    have RG := Lib.hid hrg
    have IX := Lib.hid hix
    have MQ := Lib.hid hmq
    have HZ := Lib.hid hz
    have hzb : 0 ≤ z ∧ z ≤ 1000000 := by
      have hb := todo_bound (left := left) (g := gonG sg) (l := L) (B := 1) (by decide) (fun p _ => gonG_b sg p)
      rw [← HZ.out] at hb
      have := LL.out
      omega
    clear hrg hix hmq hz
    go_wp2_with (at_next; refine wpList_next_mp kP_law rfl _ rfl rfl RG.out ?_ ?_)
    · intro hl0
      have hl : ∀ p s, Q p = some s → left p = false := fun p s hp => hl0 p.1 p.2 (HQ.out.ok hp)
      have HF : Hid (z = (L.map (gonG sg)).sum) := Lib.hid (HZ.out.trans (todo_all fun p hp => hl p.1 p.2 ((EN.out.2 p.1 p.2).1 hp)))
      have IX2 : Hid (Ix wr X bn bp n m (goneN1 N Q sg) (goneQ1 Q sg)) := Lib.hid (by rw [← goneN_end hl, ← goneQ_end hl]; exact IX.out)
      clear hl hl0
      go_wp2_with fail
      go_ret
      exact ⟨⟨z, rfl, fun L' hL' => HF.out.trans (HALL.out L' hL')⟩, IX2.out, MQ.out⟩
    · intro xa xb c w2 cnt2 hlx hfx hrg2 hlt2 hg2 hs2 hen
      simp only [kP_kv, kP_mv] at hen ⊢
      rw [goneQ_at hlx] at hfx
      have hst := todo_step (g := gonG sg) EN.out hfx hlx
      rw [← HZ.out] at hst
      have lts := HI.out.lts
      have LTS := Lib.hid lts
      have LT := Lib.hid (show w2.rangeLeft bp w.heap.size < wr.rangeLeft bp w.heap.size by rw [hrg2.left_eq, RG.out.left_eq]; exact hlt2)
      have ix2 : Ix w2 X bn bp n m (goneN N Q sg left) (goneQ Q sg left) := IX.out.keep (hg2.block _ IX.out.lts.1 (fun e => by injection e with e; omega)) (hg2.block _ IX.out.lts.2.1 (fun e => by injection e with e; omega)) (hg2.block _ IX.out.lts.2.2 (fun e => by injection e with e; omega))
      have mq2 : Mq bn bp w w2 := ⟨hg2.os.trans MQ.out.os, hg2.tape.trans MQ.out.tape, hg2.output.trans MQ.out.output, Nat.le_trans MQ.out.size hg2.size, fun i hi h1 h2 => (hg2.block i (Nat.lt_of_lt_of_le hi MQ.out.size) (fun e => by injection e with e; omega)).trans (MQ.out.block i hi h1 h2)⟩
      have b3 : Below w2.heap.size w2 ((w2.alloc (.cells #[.int .i64 xa, .int .i64 xb] (36 : Nat))).alloc (.cells #[.string c] (82 : Nat))) := ((Below.refl _ _).alloc (Nat.le_refl _) _).alloc (by rw [alloc_sizeR]; omega) _
      have HLX := Lib.hid hlx
      have HFX := Lib.hid hfx
      have HXOK := Lib.hid (show kP.ok (xa, xb) from HQ.out.ok hfx)
      have HCS := Lib.hid (HID.out _ _ hfx)
      have IX2 := Lib.hid ix2
      have MQ2 := Lib.hid mq2
      have RG2 := Lib.hid hrg2
      have B3 := Lib.hid b3
      have HST := Lib.hid hst
      have wz : wrap64 (z + 1) = z + 1 := IntWalk.wrap64_in _ (by omega)
      clear hst hlt2 hg2 hs2 hrg2 hfx hlx ix2 mq2 b3 lts
      by_cases hsg : xa = sg
      rotate_left
      · have e0 : gonG sg ((xa, xb), c) = 0 := if_neg hsg
        have HS2 : Hid (todo (fun z => left z && !decide (z = (xa, xb))) (gonG sg) L = z) := Lib.hid (by rw [HST.out, e0]; omega)
        have R3 : Hid (kP.Rg Try.prog 36 ((w2.alloc (.cells #[.int .i64 xa, .int .i64 xb] (36 : Nat))).alloc (.cells #[.string c] (82 : Nat))) bp w.heap.size m (goneQ Q sg (fun z => left z && !decide (z = (xa, xb)))) (fun z => left z && !decide (z = (xa, xb))) cnt2) := Lib.hid (by rw [goneQ_far hsg]; exact RG2.out.below B3.out)
        have I3 : Hid (Ix ((w2.alloc (.cells #[.int .i64 xa, .int .i64 xb] (36 : Nat))).alloc (.cells #[.string c] (82 : Nat))) X bn bp n m (goneN N Q sg (fun z => left z && !decide (z = (xa, xb)))) (goneQ Q sg (fun z => left z && !decide (z = (xa, xb))))) := Lib.hid (by
          rw [goneQ_far hsg, goneN_far HFX.out (fun e _ he hs => hsg (((congrArg Prod.fst he : e.seg = xa).symm).trans hs))]
          exact IX2.out.below B3.out)
        have MS : Hid (((w2.alloc (.cells #[.int .i64 xa, .int .i64 xb] (36 : Nat))).alloc (.cells #[.string c] (82 : Nat))).rangeLeft bp w.heap.size < wr.rangeLeft bp w.heap.size) := Lib.hid (by rw [R3.out.left_eq, ← RG2.out.left_eq]; exact LT.out)
        have g1 : (xa != sg) = true := bne_iff_ne.2 hsg
        have g2 : (xa = sg) = False := eq_false hsg
        clear e0 hsg
        go_wp2_with fail
        go_roundw
        case rel => exact ⟨_, _, z, rfl, HS2.out.symm, R3.out, I3.out, MQ2.out.trans (Mq.of_below B3.out)⟩
        case measure => exact MS.out
      · have e0 : gonG sg ((xa, xb), c) = 1 := if_pos hsg
        have HS2 : Hid (todo (fun z => left z && !decide (z = (xa, xb))) (gonG sg) L = z + 1) := Lib.hid (by rw [HST.out, e0])
        have HXS := Lib.hid hsg
        have b3d := below_drew B3.out
        obtain ⟨w4, cnt4, hrun4, hrg4, hlt4, hg4, hz4⟩ := (RG2.out.below b3d).drop kP_law (xa, xb) HXOK.out 0
        rw [strike2, goneQ_near HXS.out] at hrg4
        have ix4 := (IX2.out.below b3d).grownP hg4 hrg4.is
        have mq4 := (MQ2.out.trans (Mq.of_below b3d)).trans (Mq.grownR hg4)
        have d1 := (IX2.out.below b3d).c1
        have sz := alloc_sizeR w2 (.cells #[.int .i64 xa, .int .i64 xb] (36 : Nat))
        have l2 := IX2.out.lts
        have xR := (hg4.block w2.heap.size (by show _ < ((w2.alloc (.cells #[.int .i64 xa, .int .i64 xb] (36 : Nat))).alloc (.cells #[.string c] (82 : Nat))).heap.size; have := B3.out.size; rw [alloc_sizeR, alloc_sizeR]; omega) (fun e => by injection e with e; omega)).trans ((two_newR w2 (.cells #[.int .i64 xa, .int .i64 xb] (36 : Nat)) (.cells #[.string c] (82 : Nat))).1)
        have yR := (hg4.block (w2.heap.size + 1) (by show _ < ((w2.alloc (.cells #[.int .i64 xa, .int .i64 xb] (36 : Nat))).alloc (.cells #[.string c] (82 : Nat))).heap.size; rw [alloc_sizeR, alloc_sizeR]; omega) (fun e => by injection e with e; omega)).trans ((two_newR w2 (.cells #[.int .i64 xa, .int .i64 xb] (36 : Nat)) (.cells #[.string c] (82 : Nat))).2)
        have x0 : w4.cell? ⟨w2.heap.size, 0, none⟩ = some (.int .i64 xa) := (cell_of_row _ _ 0 _ _ _ xR).trans rfl
        have x1 : w4.cell? ⟨w2.heap.size, 1, none⟩ = some (.int .i64 xb) := (cell_of_row _ _ 1 _ _ _ xR).trans rfl
        have y0 : w4.cell? ⟨w2.heap.size + 1, 0, none⟩ = some (.string c) := (cell_of_row _ _ 0 _ _ _ yR).trans rfl
        have b4d : Below w4.heap.size w4 w4.drew := below_drew (Below.refl _ _)
        have b4e : ∀ cs, Below w4.heap.size w4 (w4.alloc (.cells cs (49 : Nat))).drew := fun cs => below_drew ((Below.refl _ _).alloc (Nat.le_refl _) _)
        have y0' : (w4.alloc (.cells #[.int .u64 0, .int .u64 0, .bool false, .int .i64 0, .int .i64 0, .int .i64 0] (49 : Nat))).drew.cell? ⟨w2.heap.size + 1, 0, none⟩ = some (.string c) := ((b4e #[.int .u64 0, .int .u64 0, .bool false, .int .i64 0, .int .i64 0, .int .i64 0]).cell (p := ⟨w2.heap.size + 1, 0, none⟩) (lt_of_cellR y0)).trans y0
        have d0 := (ix4.below b4d).c0
        have d0' := (ix4.below (b4e #[.int .u64 0, .int .u64 0, .bool false, .int .i64 0, .int .i64 0, .int .i64 0])).c0
        have hl3 := (ix4.below b4d).lookN c HCS.out
        have hl4 := (ix4.below (b4e #[.int .u64 0, .int .u64 0, .bool false, .int .i64 0, .int .i64 0, .int .i64 0])).lookN c HCS.out
        have LT4 : Hid (w4.rangeLeft bp w.heap.size < wr.rangeLeft bp w.heap.size) := Lib.hid (by have := LT.out; rw [RG2.out.left_eq] at this; rw [hrg4.left_eq]; omega)
        have R4 := Lib.hid hrg4
        have I4 := Lib.hid ix4
        have M4 := Lib.hid mq4
        simp only [kP_kv] at hrun4
        clear hrg4 hlt4 hg4 hz4 ix4 mq4 sz l2 xR yR b3d e0
        subst hsg
        cases hnc : goneN N Q xa left c with
        | none =>
          rw [hnc] at hl3 hl4
          have hl3' : (Instr.lookup 64 (.map (some bn)) (.string c) true).run Try.prog w4.drew = .ok (.tuple #[.agg #[.int .u64 0, .int .u64 0, .bool false, .int .i64 0, .int .i64 0, .int .i64 0], .bool false]) w4.drew := hl3
          have hl4' : (Instr.lookup 64 (.map (some bn)) (.string c) true).run Try.prog (w4.alloc (.cells #[.int .u64 0, .int .u64 0, .bool false, .int .i64 0, .int .i64 0, .int .i64 0] (49 : Nat))).drew = .ok (.tuple #[.agg #[.int .u64 0, .int .u64 0, .bool false, .int .i64 0, .int .i64 0, .int .i64 0], .bool false]) (w4.alloc (.cells #[.int .u64 0, .int .u64 0, .bool false, .int .i64 0, .int .i64 0, .int .i64 0] (49 : Nat))).drew := hl4
          have NF : Hid (goneN N Q xa (fun z => left z && !decide (z = (xa, xb))) = goneN N Q xa left) := Lib.hid (goneN_far HFX.out (fun e hn he _ => by have := goneN_keep (Q := Q) (sg := xa) hn (by rw [he]; exact HLX.out); rw [hnc] at this; cases this))
          have B5 := Lib.hid (b4e #[.int .u64 0, .int .u64 0, .bool false, .int .i64 0, .int .i64 0, .int .i64 0])
          have R5 := Lib.hid (R4.out.below (b4e #[.int .u64 0, .int .u64 0, .bool false, .int .i64 0, .int .i64 0, .int .i64 0]))
          have MS : Hid ((w4.alloc (.cells #[.int .u64 0, .int .u64 0, .bool false, .int .i64 0, .int .i64 0, .int .i64 0] (49 : Nat))).drew.rangeLeft bp w.heap.size < wr.rangeLeft bp w.heap.size) := Lib.hid (by rw [R5.out.left_eq, ← R4.out.left_eq]; exact LT4.out)
          have REL : Hid (Ix (w4.alloc (.cells #[.int .u64 0, .int .u64 0, .bool false, .int .i64 0, .int .i64 0, .int .i64 0] (49 : Nat))).drew X bn bp n m (goneN N Q xa (fun z => left z && !decide (z = (xa, xb)))) (goneQ Q xa (fun z => left z && !decide (z = (xa, xb))))) := Lib.hid (by rw [NF.out]; exact I4.out.below B5.out)
          clear hl3 hl4 hnc b4d b4e
          go_wp2_with fail
          go_region
          go_wp2_with fail
          go_region
          go_wp2_with fail
          go_roundw
          case rel => exact ⟨_, _, z + 1, by first | rfl | rw [wz], HS2.out.symm, R5.out, REL.out, M4.out.trans (Mq.of_below B5.out)⟩
          case measure => exact MS.out
        | some e =>
          have hN := goneN_of hnc
          rw [hnc] at hl3 hl4
          have B5 := Lib.hid (fun cs => b4e cs)
          by_cases hat : e.at_ = (xa, xb)
          · have NN := Lib.hid (goneN_near (Q := Q) (sg := xa) (left := left) HFX.out hN hat (congrArg Prod.fst hat))
            obtain ⟨a, d, l, u, v, x⟩ := e
            obtain rfl : v = xa := congrArg Prod.fst hat
            obtain rfl : x = xb := congrArg Prod.snd hat
            simp only [Option.getD_some, Option.isSome_some, Ent.row] at hl3 hl4
            obtain ⟨W5, hW5⟩ : ∃ W, W = (w4.alloc (.cells #[.int .u64 (a : Int), .int .u64 (d : Int), .bool l, .int .i64 u, .int .i64 v, .int .i64 x] (49 : Nat))).drew := ⟨_, rfl⟩
            have b5 : Below w4.heap.size w4 W5 := by rw [hW5]; exact b4e _
            have ix5 := I4.out.below b5
            have b5d : Below W5.heap.size W5 W5.drew := below_drew (Below.refl _ _)
            obtain ⟨w6, hrun6, hx6, hg6, hz6⟩ := (ix5.below b5d).dropN c HCS.out 0
            rw [NN.out] at hx6
            have r6 := ((R4.out.below b5).below b5d).kept hg6 (fun e => IX2.out.ne (by injection e with e; exact e.symm)) (fun e => by injection e with e; have := LTS.out.2.1; omega)
            have R6 := Lib.hid r6
            have I6 := Lib.hid hx6
            have M6 := Lib.hid ((M4.out.trans (Mq.of_below b5)).trans ((Mq.of_below b5d).trans (Mq.grownL hg6)))
            have MS : Hid (w6.rangeLeft bp w.heap.size < wr.rangeLeft bp w.heap.size) := Lib.hid (by rw [r6.left_eq, ← R4.out.left_eq]; exact LT4.out)
            have f0 := ix5.c0
            have z4 : W5.cell? ⟨w4.heap.size, 4, none⟩ = some (.int .i64 v) := by rw [hW5]; exact (cell_of_row (w4.alloc (.cells #[.int .u64 (a : Int), .int .u64 (d : Int), .bool l, .int .i64 u, .int .i64 v, .int .i64 x] (49 : Nat))) _ 4 _ _ _ (heap_alloc_new _ _)).trans rfl
            have z5 : W5.cell? ⟨w4.heap.size, 5, none⟩ = some (.int .i64 x) := by rw [hW5]; exact (cell_of_row (w4.alloc (.cells #[.int .u64 (a : Int), .int .u64 (d : Int), .bool l, .int .i64 u, .int .i64 v, .int .i64 x] (49 : Nat))) _ 5 _ _ _ (heap_alloc_new _ _)).trans rfl
            have v0 : W5.cell? ⟨w2.heap.size, 0, none⟩ = some (.int .i64 v) := (b5.cell (p := ⟨w2.heap.size, 0, none⟩) (lt_of_cellR x0)).trans x0
            have v1 : W5.cell? ⟨w2.heap.size, 1, none⟩ = some (.int .i64 x) := (b5.cell (p := ⟨w2.heap.size, 1, none⟩) (lt_of_cellR x1)).trans x1
            have v2 : W5.cell? ⟨w2.heap.size + 1, 0, none⟩ = some (.string c) := (b5.cell (p := ⟨w2.heap.size + 1, 0, none⟩) (lt_of_cellR y0)).trans y0
            have HW5 := Lib.hid hW5
            clear hN hnc b4d b4e hat b5 ix5 b5d hx6 hg6 hz6 r6 hW5
            go_wp2_with fail
            go_region
            go_wp2_with fail
            go_region
            rw [← HW5.out]
            go_wp2_with fail
            go_region
            go_wp2_with fail
            go_roundw
            case rel => exact ⟨_, _, z + 1, by first | rfl | rw [wz], HS2.out.symm, R6.out, I6.out, M6.out⟩
            case measure => exact MS.out
          · have NF : Hid (goneN N Q xa (fun z => left z && !decide (z = (xa, xb))) = goneN N Q xa left) := Lib.hid (goneN_far HFX.out (fun e' hn he _ => by rw [hN] at hn; rw [← Option.some.inj hn] at he; exact absurd he hat))
            obtain ⟨a, d, l, u, v, x⟩ := e
            simp only [Option.getD_some, Option.isSome_some, Ent.row] at hl3 hl4
            obtain ⟨W5, hW5⟩ : ∃ W, W = (w4.alloc (.cells #[.int .u64 (a : Int), .int .u64 (d : Int), .bool l, .int .i64 u, .int .i64 v, .int .i64 x] (49 : Nat))).drew := ⟨_, rfl⟩
            have b5 : Below w4.heap.size w4 W5 := by rw [hW5]; exact b4e _
            have R5 := Lib.hid (R4.out.below b5)
            have MS : Hid (W5.rangeLeft bp w.heap.size < wr.rangeLeft bp w.heap.size) := Lib.hid (by rw [R5.out.left_eq, ← R4.out.left_eq]; exact LT4.out)
            have REL : Hid (Ix W5 X bn bp n m (goneN N Q xa (fun z => left z && !decide (z = (xa, xb)))) (goneQ Q xa (fun z => left z && !decide (z = (xa, xb))))) := Lib.hid (by rw [NF.out]; exact I4.out.below b5)
            have M5 := Lib.hid (M4.out.trans (Mq.of_below b5))
            have z4 : W5.cell? ⟨w4.heap.size, 4, none⟩ = some (.int .i64 v) := by rw [hW5]; exact (cell_of_row (w4.alloc (.cells #[.int .u64 (a : Int), .int .u64 (d : Int), .bool l, .int .i64 u, .int .i64 v, .int .i64 x] (49 : Nat))) _ 4 _ _ _ (heap_alloc_new _ _)).trans rfl
            have z5 : W5.cell? ⟨w4.heap.size, 5, none⟩ = some (.int .i64 x) := by rw [hW5]; exact (cell_of_row (w4.alloc (.cells #[.int .u64 (a : Int), .int .u64 (d : Int), .bool l, .int .i64 u, .int .i64 v, .int .i64 x] (49 : Nat))) _ 5 _ _ _ (heap_alloc_new _ _)).trans rfl
            have v0 : W5.cell? ⟨w2.heap.size, 0, none⟩ = some (.int .i64 xa) := (b5.cell (p := ⟨w2.heap.size, 0, none⟩) (lt_of_cellR x0)).trans x0
            have v1 : W5.cell? ⟨w2.heap.size, 1, none⟩ = some (.int .i64 xb) := (b5.cell (p := ⟨w2.heap.size, 1, none⟩) (lt_of_cellR x1)).trans x1
            have HW5 := Lib.hid hW5
            have hne : ¬ (v = xa ∧ x = xb) := fun h => hat (by show (v, x) = (xa, xb); rw [h.1, h.2])
            clear hN hnc b4d b4e hat b5 hW5
            by_cases hv : v = xa
            · have hx : ¬ x = xb := fun h => hne ⟨hv, h⟩
              subst hv
              have g1 : (x == xb) = false := beq_eq_false_iff_ne.2 hx
              have g2 : (x = xb) = False := eq_false hx
              clear hne hx
              go_wp2_with fail
              go_region
              go_wp2_with fail
              go_region
              rw [← HW5.out]
              go_wp2_with fail
              go_roundw
              case rel => exact ⟨_, _, z + 1, by first | rfl | rw [wz], HS2.out.symm, R5.out, REL.out, M5.out⟩
              case measure => exact MS.out
            · have g1 : (v == xa) = false := beq_eq_false_iff_ne.2 hv
              have g2 : (v = xa) = False := eq_false hv
              clear hne hv
              go_wp2_with fail
              go_region
              go_wp2_with fail
              go_region
              rw [← HW5.out]
              go_wp2_with fail
              go_roundw
              case rel => exact ⟨_, _, z + 1, by first | rfl | rw [wz], HS2.out.symm, R5.out, REL.out, M5.out⟩
              case measure => exact MS.out
end Go.Proofs.Ythpompgcnemanaa.G
