/- The index: how many stand elsewhere, what lives in a segment; a segment that is gone. -/
import Derived.Test.YthpompgcnemanaaIi
namespace Go.Proofs.Ythpompgcnemanaa.G
open Go.RowKit Go.Maps Go.Proofs.Ythpompgcnemanaa.WordPlain Go.Proofs.Ythpompgcnemanaa.Loose
set_option linter.unusedVariables false
set_option linter.unusedSimpArgs false

theorem str_ne {a b : ByteArray} (h : a ≠ b) : (a.toList = b.toList) = False := eq_false fun e => by
  rw [ByteArray.toList_eq, ByteArray.toList_eq] at e
  exact h (ByteArray.ext (Array.toList_inj.1 e))
theorem kP_kv (a b : Int) : kP.kv (a, b) = .agg #[.int .i64 a, .int .i64 b] := rfl
theorem kP_mv (c : ByteArray) : kP.mv c = .agg #[.string c] := rfl
theorem kN_kv (c : ByteArray) : kN.kv c = .string c := rfl
theorem kN_mv (c : Ent) : kN.mv c = .agg #[.int .u64 c.ver, .int .u64 c.dl, .bool c.live, .int .i64 c.sz, .int .i64 c.seg, .int .i64 c.slot] := rfl
/-- of an id, elsewhere -/
def othG (i : ByteArray) (sg : Int) (p : Plc × ByteArray) : Int := if p.1.1 ≠ sg ∧ p.2 = i then 1 else 0
theorem othG_b (i : ByteArray) (sg : Int) (p : Plc × ByteArray) : 0 ≤ othG i sg p ∧ othG i sg p ≤ 1 := by unfold othG; split <;> omega
theorem below_iter {w0 w w' : World} {r : Nat} (h : Below w0.heap.size w0 w) (hr : w0.heap.size ≤ r) (hg : w.grownBy w' (some r)) : Below w0.heap.size w0 w' :=
  ⟨hg.os.trans h.os, hg.tape.trans h.tape, hg.output.trans h.output, Nat.le_trans h.size hg.size, fun i hi => (hg.block i (Nat.lt_of_lt_of_le hi h.size) (fun e => by injection e with e; omega)).trans (h.block i hi)⟩

set_option maxRecDepth 100000 in
set_option maxHeartbeats 2000000 in
theorem IOthers_val (w : World) (X bn bp n m : Nat) (N : ByteArray → Option Ent) (Q : Plc → Option ByteArray) (i : ByteArray) (sg : Int) (h : Ix w X bn bp n m N Q) (hm : m ≤ 1000000) :
    Calls Try.prog 20 #[.pointer (some ⟨X, 0, none⟩), .string i, .int .i64 sg] w fun e w' => (∃ c : Int, e = .returned (.int .i64 c) ∧ ∀ L, En Q L → c = (L.map (othG i sg)).sum) ∧ Below w.heap.size w w' := by
  obtain ⟨L, hL, hLl⟩ := h.plcs.enum kP_law
  have EN := Lib.hid hL
  have LL := Lib.hid hLl
  have HQ := Lib.hid h.plcs
  have c1 := h.c1
  have hall : ∀ L', En Q L' → (L.map (othG i sg)).sum = (L'.map (othG i sg)).sum := fun L' h' => sum_perm (hL.perm h')
  have HALL := Lib.hid hall
  clear hL hLl h hall
  go_enter Try.func20, Try.ntmps20
  go_wp2_with (at_range; refine wpList_range_mp kP_law rfl _ rfl rfl HQ.out ?_; intro w1 cnt hrg hb1)
  clear c1
  have RG := Lib.hid hrg
  have B1 := Lib.hid hb1
  clear hrg hb1
  go_frame
  go_loopw [7] (fun c wr => ∃ (left : Plc → Bool) (cnt : Nat) (z : Int), c = .int .i64 z ∧ z = todo left (othG i sg) L ∧ kP.Rg Try.prog 36 wr bp w.heap.size m Q left cnt ∧ Below w.heap.size w wr) (fun _ wr => wr.rangeLeft bp w.heap.size)
  case atStart => exact ⟨_, _, 0, rfl, (todo_none fun p hp => by rw [(EN.out.2 p.1 p.2).1 hp]; rfl).symm, RG.out, B1.out⟩
  case round =>
    obtain ⟨left, cnt, z, rfl, hz, hrg, hbl⟩ := hrel
    have RG := Lib.hid hrg
    have HB := Lib.hid hbl
    have HZ := Lib.hid hz
    clear hrg hbl hz
    have hzb : 0 ≤ z ∧ z ≤ 1000000 := by
      have hb := todo_bound (left := left) (g := othG i sg) (l := L) (B := 1) (by decide) (fun p _ => othG_b i sg p)
      rw [← HZ.out] at hb
      have := LL.out
      omega
    go_wp2_with (at_next; refine wpList_next_mp kP_law rfl _ rfl rfl RG.out ?_ ?_)
    · intro hl0
      have hz : z = (L.map (othG i sg)).sum := by
        rw [HZ.out]
        exact todo_all fun p hp => hl0 p.1.1 p.1.2 (HQ.out.ok ((EN.out.2 p.1 p.2).1 hp))
      have HZ2 := Lib.hid hz
      clear hz hl0
      go_wp2_with fail
      go_ret
      exact ⟨⟨z, rfl, fun L' hL' => HZ2.out.trans (HALL.out L' hL')⟩, HB.out⟩
    · intro xa xb c w2 cnt2 hlx hfx hrg2 hlt2 hg2 hs2 hen
      simp only [kP_kv, kP_mv] at hen ⊢
      have hst := todo_step (g := othG i sg) EN.out hfx hlx
      rw [← HZ.out] at hst
      have LT := Lib.hid (show w2.rangeLeft bp w.heap.size < wr.rangeLeft bp w.heap.size by rw [hrg2.left_eq, RG.out.left_eq]; exact hlt2)
      have B2 := Lib.hid (below_iter HB.out (Nat.le_refl _) hg2)
      have R2 := Lib.hid hrg2
      have HST := Lib.hid hst
      have wz : wrap64 (z + 1) = z + 1 := IntWalk.wrap64_in _ (by omega)
      clear hst hlt2 hg2 hs2 hrg2 hfx hlx
      have b3 : Below w2.heap.size w2 ((w2.alloc (.cells #[.int .i64 xa, .int .i64 xb] (36 : Nat))).alloc (.cells #[.string c] (82 : Nat))) := ((Below.refl _ _).alloc (Nat.le_refl _) _).alloc (by rw [alloc_sizeR]; omega) _
      have B3 := Lib.hid b3
      have R3 := Lib.hid (R2.out.below b3)
      have MS : Hid (((w2.alloc (.cells #[.int .i64 xa, .int .i64 xb] (36 : Nat))).alloc (.cells #[.string c] (82 : Nat))).rangeLeft bp w.heap.size < wr.rangeLeft bp w.heap.size) := Lib.hid (by rw [R3.out.left_eq, ← R2.out.left_eq]; exact LT.out)
      clear b3
      by_cases hsg : xa = sg
      · have e0 : othG i sg ((xa, xb), c) = 0 := if_neg (fun h => h.1 hsg)
        have HS2 : Hid (todo (fun z => left z && !decide (z = (xa, xb))) (othG i sg) L = z) := Lib.hid (by rw [HST.out, e0]; omega)
        subst hsg
        clear e0
        go_wp2_with fail
        go_roundw
        case rel => exact ⟨_, _, z, rfl, HS2.out.symm, R3.out, stepR B2.out B3.out⟩
        case measure => exact MS.out
      · have g1 : (xa != sg) = true := bne_iff_ne.2 hsg
        have g2 : (xa = sg) = False := eq_false hsg
        by_cases hci : c = i
        · have e0 : othG i sg ((xa, xb), c) = 1 := if_pos ⟨hsg, hci⟩
          have HS2 : Hid (todo (fun z => left z && !decide (z = (xa, xb))) (othG i sg) L = z + 1) := Lib.hid (by rw [HST.out, e0])
          subst hci
          have q0 : (c.toList == c.toList) = true := beq_self_eq_true _
          clear e0 hsg
          go_wp2_with fail
          go_roundw
          case rel => exact ⟨_, _, z + 1, by first | rfl | rw [wz], HS2.out.symm, R3.out, stepR B2.out B3.out⟩
          case measure => exact MS.out
        · have e0 : othG i sg ((xa, xb), c) = 0 := if_neg (fun h => hci h.2)
          have HS2 : Hid (todo (fun z => left z && !decide (z = (xa, xb))) (othG i sg) L = z) := Lib.hid (by rw [HST.out, e0]; omega)
          have q0 := str_ne hci
          have q1 : (c = i) = False := eq_false hci
          have q2 : (c.toList == i.toList) = false := beq_eq_false_iff_ne.2 (fun h => by rw [h] at q0; simp at q0)
          clear e0 hsg hci
          go_wp2_with fail
          go_roundw
          case rel => exact ⟨_, _, z, rfl, HS2.out.symm, R3.out, stepR B2.out B3.out⟩
          case measure => exact MS.out
/-- in a segment: newest ones, those that live, their bytes -/
def inA (sg : Int) (p : ByteArray × Ent) : Int := if p.2.seg = sg then 1 else 0
def inB (sg : Int) (p : ByteArray × Ent) : Int := if p.2.seg = sg ∧ p.2.live = true then 1 else 0
def inC (sg : Int) (p : ByteArray × Ent) : Int := if p.2.seg = sg ∧ p.2.live = true then p.2.sz else 0
theorem inA_b (sg : Int) (p : ByteArray × Ent) : 0 ≤ inA sg p ∧ inA sg p ≤ 1 := by unfold inA; split <;> omega
theorem inB_b (sg : Int) (p : ByteArray × Ent) : 0 ≤ inB sg p ∧ inB sg p ≤ 1 := by unfold inB; split <;> omega
theorem inC_b (sg : Int) (p : ByteArray × Ent) (h : 0 ≤ p.2.sz ∧ p.2.sz ≤ 4000000) : 0 ≤ inC sg p ∧ inC sg p ≤ 4000000 := by unfold inC; split <;> omega
set_option maxRecDepth 100000 in
set_option maxHeartbeats 2000000 in
theorem IIn_val (w : World) (X bn bp n m : Nat) (N : ByteArray → Option Ent) (Q : Plc → Option ByteArray) (sg : Int) (h : Ix w X bn bp n m N Q) (hn : n ≤ 1000000) (hsz : ∀ i s, N i = some s → 0 ≤ s.sz ∧ s.sz ≤ 4000000) :
    Calls Try.prog 14 #[.pointer (some ⟨X, 0, none⟩), .int .i64 sg] w fun e w' => (∃ c1 c2 c3 : Int, e = .returned (.tuple #[.int .i64 c1, .int .i64 c2, .int .i64 c3]) ∧ ∀ L, En N L → c1 = (L.map (inA sg)).sum ∧ c2 = (L.map (inB sg)).sum ∧ c3 = (L.map (inC sg)).sum) ∧ Below w.heap.size w w' := by
  obtain ⟨L, hL, hLl⟩ := h.news.enum kN_law
  have EN := Lib.hid hL
  have LL := Lib.hid hLl
  have HQ := Lib.hid h.news
  have HSZ := Lib.hid hsz
  have c0 := h.c0
  have hall : ∀ L', En N L' → (L.map (inA sg)).sum = (L'.map (inA sg)).sum ∧ (L.map (inB sg)).sum = (L'.map (inB sg)).sum ∧ (L.map (inC sg)).sum = (L'.map (inC sg)).sum := fun L' h' => ⟨sum_perm (hL.perm h'), sum_perm (hL.perm h'), sum_perm (hL.perm h')⟩
  have HALL := Lib.hid hall
  clear hL hLl h hall hsz
  go_enter Try.func14, Try.ntmps14
  go_wp2_with (at_range; refine wpList_range_mp kN_law rfl _ rfl rfl HQ.out ?_; intro w1 cnt hrg hb1)
  clear c0
  have RG := Lib.hid hrg
  have B1 := Lib.hid hb1
  clear hrg hb1
  go_frame
  go_loopw [7, 8, 9] (fun c1 c2 c3 wr => ∃ (left : ByteArray → Bool) (cnt : Nat) (z1 z2 z3 : Int), c1 = .int .i64 z1 ∧ c2 = .int .i64 z2 ∧ c3 = .int .i64 z3 ∧ z1 = todo left (inA sg) L ∧ z2 = todo left (inB sg) L ∧ z3 = todo left (inC sg) L ∧ kN.Rg Try.prog 9 wr bn w.heap.size n N left cnt ∧ Below w.heap.size w wr) (fun _ _ _ wr => wr.rangeLeft bn w.heap.size)
  case atStart =>
    have hs : ∀ p ∈ L, (fun x => (N x).isSome) p.1 = true := fun p hp => by show (N p.1).isSome = true; rw [(EN.out.2 p.1 p.2).1 hp]; rfl
    exact ⟨_, _, 0, 0, 0, rfl, rfl, rfl, (todo_none hs).symm, (todo_none hs).symm, (todo_none hs).symm, RG.out, B1.out⟩
  case round =>
    obtain ⟨left, cnt, z1, z2, z3, rfl, rfl, rfl, hz1, hz2, hz3, hrg, hbl⟩ := hrel
    have RG := Lib.hid hrg
    have HB := Lib.hid hbl
    have HZ1 := Lib.hid hz1
    have HZ2 := Lib.hid hz2
    have HZ3 := Lib.hid hz3
    clear hrg hbl hz1 hz2 hz3
    have hzb : (0 ≤ z1 ∧ z1 ≤ 1000000) ∧ (0 ≤ z2 ∧ z2 ≤ 1000000) ∧ (0 ≤ z3 ∧ z3 ≤ 4000000000000) := by
      have h1 := todo_bound (left := left) (g := inA sg) (l := L) (B := 1) (by decide) (fun p _ => inA_b sg p)
      have h2 := todo_bound (left := left) (g := inB sg) (l := L) (B := 1) (by decide) (fun p _ => inB_b sg p)
      have h3 := todo_bound (left := left) (g := inC sg) (l := L) (B := 4000000) (by decide) (fun p hp => inC_b sg p (HSZ.out p.1 p.2 ((EN.out.2 p.1 p.2).1 hp)))
      rw [← HZ1.out] at h1
      rw [← HZ2.out] at h2
      rw [← HZ3.out] at h3
      have := LL.out
      omega
    go_wp2_with (at_next; refine wpList_next_mp kN_law rfl _ rfl rfl RG.out ?_ ?_)
    · intro hl0
      have hl : ∀ p ∈ L, left p.1 = false := fun p hp => hl0 p.1 (HQ.out.ok ((EN.out.2 p.1 p.2).1 hp))
      have HF : Hid (z1 = (L.map (inA sg)).sum ∧ z2 = (L.map (inB sg)).sum ∧ z3 = (L.map (inC sg)).sum) := Lib.hid ⟨HZ1.out.trans (todo_all hl), HZ2.out.trans (todo_all hl), HZ3.out.trans (todo_all hl)⟩
      clear hl hl0
      go_wp2_with fail
      go_ret3
      refine ⟨⟨z1, z2, z3, rfl, fun L' hL' => ?_⟩, HB.out⟩
      obtain ⟨h1, h2, h3⟩ := HF.out
      obtain ⟨h4, h5, h6⟩ := HALL.out L' hL'
      exact ⟨h1.trans h4, h2.trans h5, h3.trans h6⟩
    · intro y c w2 cnt2 hlx hfx hrg2 hlt2 hg2 hs2 hen
      have hst1 := todo_step (g := inA sg) EN.out hfx hlx
      have hst2 := todo_step (g := inB sg) EN.out hfx hlx
      have hst3 := todo_step (g := inC sg) EN.out hfx hlx
      rw [← HZ1.out] at hst1
      rw [← HZ2.out] at hst2
      rw [← HZ3.out] at hst3
      have hcb := HSZ.out _ _ hfx
      have LT := Lib.hid (show w2.rangeLeft bn w.heap.size < wr.rangeLeft bn w.heap.size by rw [hrg2.left_eq, RG.out.left_eq]; exact hlt2)
      have B2 := Lib.hid (below_iter HB.out (Nat.le_refl _) hg2)
      have R2 := Lib.hid hrg2
      clear hlt2 hg2 hs2 hrg2 hfx hlx
      obtain ⟨a, d, l, u, v, x⟩ := c
      simp only [kN_kv, kN_mv] at hen ⊢
      simp only [inA, inB, inC] at hst1 hst2 hst3
      simp only at hcb
      have wz1 : wrap64 (z1 + 1) = z1 + 1 := IntWalk.wrap64_in _ (by omega)
      have wz2 : wrap64 (z2 + 1) = z2 + 1 := IntWalk.wrap64_in _ (by omega)
      have wz3 : wrap64 (z3 + u) = z3 + u := IntWalk.wrap64_in _ (by omega)
      have b3 : Below w2.heap.size w2 (w2.alloc (.cells #[.int .u64 (a : Int), .int .u64 (d : Int), .bool l, .int .i64 u, .int .i64 v, .int .i64 x] (49 : Nat))) := (Below.refl _ _).alloc (Nat.le_refl _) _
      have B3 := Lib.hid b3
      have R3 := Lib.hid (R2.out.below b3)
      have MS : Hid ((w2.alloc (.cells #[.int .u64 (a : Int), .int .u64 (d : Int), .bool l, .int .i64 u, .int .i64 v, .int .i64 x] (49 : Nat))).rangeLeft bn w.heap.size < wr.rangeLeft bn w.heap.size) := Lib.hid (by rw [R3.out.left_eq, ← R2.out.left_eq]; exact LT.out)
      clear b3
      by_cases hsg : v = sg
      · cases l with
        | true =>
          rw [if_pos hsg] at hst1
          rw [if_pos ⟨hsg, rfl⟩] at hst2
          rw [if_pos ⟨hsg, rfl⟩] at hst3
          have H1 := Lib.hid hst1
          have H2 := Lib.hid hst2
          have H3 := Lib.hid hst3
          subst hsg
          clear hst1 hst2 hst3
          go_wp2_with fail
          go_roundw
          case rel => exact ⟨_, _, z1 + 1, z2 + 1, z3 + u, by first | rfl | rw [wz1], by first | rfl | rw [wz2], by first | rfl | rw [wz3], H1.out.symm, H2.out.symm, H3.out.symm, R3.out, stepR B2.out B3.out⟩
          case measure => exact MS.out
        | false =>
          rw [if_pos hsg] at hst1
          rw [if_neg (fun h => by cases h.2), Int.add_zero] at hst2
          rw [if_neg (fun h => by cases h.2), Int.add_zero] at hst3
          have H1 := Lib.hid hst1
          have H2 := Lib.hid hst2
          have H3 := Lib.hid hst3
          subst hsg
          clear hst1 hst2 hst3
          go_wp2_with fail
          go_roundw
          case rel => exact ⟨_, _, z1 + 1, z2, z3, by first | rfl | rw [wz1], rfl, rfl, H1.out.symm, H2.out.symm, H3.out.symm, R3.out, stepR B2.out B3.out⟩
          case measure => exact MS.out
      · rw [if_neg hsg, Int.add_zero] at hst1
        rw [if_neg (fun h => hsg h.1), Int.add_zero] at hst2
        rw [if_neg (fun h => hsg h.1), Int.add_zero] at hst3
        have H1 := Lib.hid hst1
        have H2 := Lib.hid hst2
        have H3 := Lib.hid hst3
        have g1 : (v != sg) = true := bne_iff_ne.2 hsg
        have g2 : (v = sg) = False := eq_false hsg
        clear hst1 hst2 hst3 hsg
        go_wp2_with fail
        go_roundw
        case rel => exact ⟨_, _, z1, z2, z3, rfl, rfl, rfl, H1.out.symm, H2.out.symm, H3.out.symm, R3.out, stepR B2.out B3.out⟩
        case measure => exact MS.out
end Go.Proofs.Ythpompgcnemanaa.G
