/- The index in memory; New, Newest, At, Kill. -/
import Derived.Test.YthpompgcnemanaaIm
import Derived.Laws.ResultCell
import Derived.Laws.Rows
import Derived.Test.YthpompgcnemanaaGFast
import Derived.Test.YthpompgcnemanaaGQt
import Derived.BigQuiet
import Derived.BigRegion
namespace Go.Proofs.Ythpompgcnemanaa.G
open Go.RowKit Go.Maps Go.Proofs.Ythpompgcnemanaa.WordPlain Go.Proofs.Ythpompgcnemanaa.Loose
set_option linter.unusedVariables false
set_option linter.unusedSimpArgs false

/-- what stood stands, but for two blocks -/
structure Mq (p b : Nat) (w w' : World) : Prop where
  os : w'.os = w.os
  tape : w'.tape = w.tape
  output : w'.output = w.output
  size : w.heap.size ≤ w'.heap.size
  block : ∀ i, i < w.heap.size → i ≠ p → i ≠ b → w'.heap[i]? = w.heap[i]?
theorem Mq.refl (p b : Nat) (w : World) : Mq p b w w := ⟨rfl, rfl, rfl, Nat.le_refl _, fun _ _ _ _ => rfl⟩
theorem Mq.of_below {p b : Nat} {w w' : World} (h : Below w.heap.size w w') : Mq p b w w' := ⟨h.os, h.tape, h.output, h.size, fun i hi _ _ => h.block i hi⟩
theorem Mq.trans {p b : Nat} {w w1 w2 : World} (h : Mq p b w w1) (k : Mq p b w1 w2) : Mq p b w w2 :=
  ⟨k.os.trans h.os, k.tape.trans h.tape, k.output.trans h.output, Nat.le_trans h.size k.size, fun i hi hp hb => (k.block i (Nat.lt_of_lt_of_le hi h.size) hp hb).trans (h.block i hi hp hb)⟩
theorem Mq.grownL {p b : Nat} {w w1 : World} (k : w.grownBy w1 (some p)) : Mq p b w w1 := ⟨k.os, k.tape, k.output, k.size, fun i hi hp hb => k.block i hi (fun e => hp (by injection e))⟩
theorem Mq.grownR {p b : Nat} {w w1 : World} (k : w.grownBy w1 (some b)) : Mq p b w w1 := ⟨k.os, k.tape, k.output, k.size, fun i hi hp hb => k.block i hi (fun e => hb (by injection e))⟩
theorem Mq.below {p b B : Nat} {w w' : World} (h : Mq p b w w') (hp : B ≤ p) (hb : B ≤ b) (hB : B ≤ w.heap.size) : Below B w w' := ⟨h.os, h.tape, h.output, h.size, fun i hi => h.block i (by omega) (by omega) (by omega)⟩
theorem Mq.drew {p b : Nat} {w w' : World} (h : Mq p b w w') : Mq p b w w'.drew := ⟨h.os, h.tape, h.output, h.size, h.block⟩

/-- an index -/
structure Ix (w : World) (X bn bp n m : Nat) (N : ByteArray → Option Ent) (Q : Plc → Option ByteArray) : Prop where
  cells : w.heap[X]? = some (.cells #[.map (some bn), .map (some bp)] 67 (0, 0))
  news : kN.Is Try.prog 9 w bn n N
  plcs : kP.Is Try.prog 36 w bp m Q
  ne : bn ≠ bp
section
variable {w w' : World} {X bn bp n m : Nat} {N : ByteArray → Option Ent} {Q : Plc → Option ByteArray}
theorem Ix.lts (h : Ix w X bn bp n m N Q) : X < w.heap.size ∧ bn < w.heap.size ∧ bp < w.heap.size := ⟨lt_of_rowR h.cells, h.news.lt, h.plcs.lt⟩
theorem Ix.keep (h : Ix w X bn bp n m N Q) (e1 : w'.heap[X]? = w.heap[X]?) (e2 : w'.heap[bn]? = w.heap[bn]?) (e3 : w'.heap[bp]? = w.heap[bp]?) : Ix w' X bn bp n m N Q :=
  ⟨e1.trans h.cells, h.news.kept e2, h.plcs.kept e3, h.ne⟩
theorem Ix.below (h : Ix w X bn bp n m N Q) (hb : Below w.heap.size w w') : Ix w' X bn bp n m N Q := h.keep (hb.block _ h.lts.1) (hb.block _ h.lts.2.1) (hb.block _ h.lts.2.2)
theorem Ix.belowB {B : Nat} (h : Ix w X bn bp n m N Q) (hb : Below B w w') (hB : w.heap.size ≤ B) : Ix w' X bn bp n m N Q := h.below (hb.mono hB)
theorem Ix.mono {n' m' : Nat} (h : Ix w X bn bp n m N Q) (hn : n ≤ n') (hm : m ≤ m') : Ix w X bn bp n' m' N Q := ⟨h.cells, h.news.mono hn, h.plcs.mono hm, h.ne⟩
theorem Mk.Is.isMapBlock {κ ε : Type} {M : Mk κ ε} {P : Program} {k : TypeId} {b : Nat} {f : κ → Option ε} (h : M.Is P k w b n f) : ∃ es c, w.heap[b]? = some (.map es c) := let ⟨_, ⟨es, c, hb, _⟩, _⟩ := h; ⟨es, c, hb⟩
theorem Ix.xne (h : Ix w X bn bp n m N Q) : X ≠ bn ∧ X ≠ bp := by
  obtain ⟨es, c, h1⟩ := h.news.isMapBlock
  obtain ⟨es', c', h2⟩ := h.plcs.isMapBlock
  constructor
  · rintro rfl; rw [h.cells] at h1; cases h1
  · rintro rfl; rw [h.cells] at h2; cases h2
theorem Ix.grownN {n' : Nat} {N' : ByteArray → Option Ent} (h : Ix w X bn bp n m N Q) (k : w.grownBy w' (some bn)) (hN : kN.Is Try.prog 9 w' bn n' N') : Ix w' X bn bp n' m N' Q :=
  ⟨(k.block _ h.lts.1 (fun e => h.xne.1 (by injection e))).trans h.cells, hN, h.plcs.kept (k.block _ h.lts.2.2 (fun e => h.ne (by injection e with e; exact e.symm))), h.ne⟩
theorem Ix.grownP {m' : Nat} {Q' : Plc → Option ByteArray} (h : Ix w X bn bp n m N Q) (k : w.grownBy w' (some bp)) (hQ : kP.Is Try.prog 36 w' bp m' Q') : Ix w' X bn bp n m' N Q' :=
  ⟨(k.block _ h.lts.1 (fun e => h.xne.2 (by injection e))).trans h.cells, h.news.kept (k.block _ h.lts.2.1 (fun e => h.ne (by injection e))), hQ, h.ne⟩
theorem Ix.c0 (h : Ix w X bn bp n m N Q) : w.cell? ⟨X, 0, none⟩ = some (.map (some bn)) := (cell_of_row _ _ 0 _ _ _ h.cells).trans rfl
theorem Ix.c1 (h : Ix w X bn bp n m N Q) : w.cell? ⟨X, 1, none⟩ = some (.map (some bp)) := (cell_of_row _ _ 1 _ _ _ h.cells).trans rfl
theorem Ix.lookN (h : Ix w X bn bp n m N Q) (i : ByteArray) (hi : i.size ≤ 140737488351232) : (Instr.lookup 64 (.map (some bn)) (.string i) true).run Try.prog w = .ok (.tuple #[.agg ((N i).getD Ent.zero).row, .bool (N i).isSome]) w := h.news.look kN_law i (show i.size ≤ maxLen by unfold maxLen; omega)
theorem Ix.lookN1 (h : Ix w X bn bp n m N Q) (i : ByteArray) (hi : i.size ≤ 140737488351232) : (Instr.lookup 64 (.map (some bn)) (.string i) false).run Try.prog w = .ok (.agg ((N i).getD Ent.zero).row) w := h.news.look1 kN_law i (show i.size ≤ maxLen by unfold maxLen; omega)
theorem Ix.lookP (h : Ix w X bn bp n m N Q) (p : Plc) (hp : kP.ok p) : (Instr.lookup 65 (.map (some bp)) (.agg #[.int .i64 p.1, .int .i64 p.2]) true).run Try.prog w = .ok (.tuple #[.agg #[.string ((Q p).getD ⟨#[]⟩)], .bool (Q p).isSome]) w := h.plcs.look kP_law p hp
theorem Ix.storeN (h : Ix w X bn bp n m N Q) (hn : n < 1000000) (i : ByteArray) (hi : i.size ≤ 140737488351232) (s : Ent) :
    ∃ w', (Instr.mapUpdate 64 (.map (some bn)) (.string i) (.agg s.row)).run Try.prog w = .ok () w' ∧ Ix w' X bn bp (n + 1) m (updM N i (some s)) Q ∧ Mq bn bp w w' ∧ w'.heap.size = w.heap.size := by
  obtain ⟨w', h1, h2, h3, h4⟩ := h.news.store kN_law hn i (show i.size ≤ maxLen by unfold maxLen; omega) s
  exact ⟨w', h1, h.grownN h3 h2, Mq.grownL h3, h4⟩
theorem Ix.storeP (h : Ix w X bn bp n m N Q) (hm : m < 1000000) (p : Plc) (hp : kP.ok p) (i : ByteArray) :
    ∃ w', (Instr.mapUpdate 65 (.map (some bp)) (.agg #[.int .i64 p.1, .int .i64 p.2]) (.agg #[.string i])).run Try.prog w = .ok () w' ∧ Ix w' X bn bp n (m + 1) N (updM Q p (some i)) ∧ Mq bn bp w w' ∧ w'.heap.size = w.heap.size := by
  obtain ⟨w', h1, h2, h3, h4⟩ := h.plcs.store kP_law hm p hp i
  exact ⟨w', h1, h.grownP h3 h2, Mq.grownR h3, h4⟩
theorem Ix.dropN (h : Ix w X bn bp n m N Q) (i : ByteArray) (hi : i.size ≤ 140737488351232) (ty : TypeId) :
    ∃ w', (Builtin.delete_ #[64, 9] ty #[.map (some bn), .string i]).run Try.prog w = .ok (.tuple #[]) w' ∧ Ix w' X bn bp n m (updM N i none) Q ∧ w.grownBy w' (some bn) ∧ w'.heap.size = w.heap.size := by
  obtain ⟨w', h1, h2, h3, h4⟩ := h.news.drop kN_law i (show i.size ≤ maxLen by unfold maxLen; omega) ty
  exact ⟨w', h1, h.grownN h3 h2, h3, h4⟩
end
theorem below_drew {B : Nat} {w W : World} (h : Below B w W) : Below B w W.drew := ⟨h.os, h.tape, h.output, h.size, h.block⟩
def isAggT : TypeDesc → Bool | .struct _ | .array _ _ => true | _ => false
theorem results_cell_tmp_row {fn : Func} {p u : Tmp} {ty : TypeId} (h : fn.results = #[.cell p ty, .tmp u]) (tmps : Array Value) (w : World) (g : Nat) (t : TypeId) (cs : Array Value) (fr : Nat × Nat) (d : TypeDesc)
    (hp : tmps.getD p undef = .pointer (some ⟨g, 0, none⟩)) (hg : w.heap[g]? = some (.cells cs t fr))
    (hu : Try.prog.underlying ty = some d) (hd : isAggT d = true) (hi : (Try.prog.info? ty).map (·.size) = some cs.size) :
    (results fn tmps).run Try.prog w = .ok (.tuple #[.agg cs, tmps.getD u undef]) w := by
  rw [results_cell_tmp h, hp]
  simp [asAddr, run_loadVar_row w g t ty cs fr d hg hu (by cases d <;> first | rfl | exact hd) hi, Result.andThen]

set_option maxRecDepth 100000 in
theorem INew_val (w : World) : Calls Try.prog 9 #[] w fun e w' => (∃ X bn bp, e = .returned (.pointer (some ⟨X, 0, none⟩)) ∧ Ix w' X bn bp 0 0 (fun _ => none) (fun _ => none) ∧ w.heap.size ≤ X ∧ w.heap.size ≤ bn ∧ w.heap.size ≤ bp) ∧ Below w.heap.size w w' := by
  have hmm := @run_makeMap Try.prog
  go_enter Try.func9, Try.ntmps9
  go_wp2_with fail
  have s1 := alloc_sizeR w (.map #[] 0)
  have s2 := alloc_sizeR (w.alloc (.map #[] 0)) (.map #[] 0)
  have b1 : Below w.heap.size w (w.alloc (.map #[] 0)) := (Below.refl _ _).alloc (Nat.le_refl _) _
  have b2 : Below w.heap.size w ((w.alloc (.map #[] 0)).alloc (.map #[] 0)) := b1.alloc (by rw [s1]; omega) _
  have e := heap_alloc_new ((w.alloc (.map #[] 0)).alloc (.map #[] 0)) (.cells #[.map (some w.heap.size), .map (some (w.heap.size + 1))] 67)
  have m1 : kN.Is Try.prog 9 (w.alloc (.map #[] 0)) w.heap.size 0 (fun _ => none) := Mk.Is.made w
  have m2 : kP.Is Try.prog 36 ((w.alloc (.map #[] 0)).alloc (.map #[] 0)) (w.alloc (.map #[] 0)).heap.size 0 (fun _ => none) := Mk.Is.made _
  have a1 : Below (w.alloc (.map #[] 0)).heap.size (w.alloc (.map #[] 0)) ((w.alloc (.map #[] 0)).alloc (.map #[] 0)) := (Below.refl _ _).alloc (Nat.le_refl _) _
  have a2 : Below ((w.alloc (.map #[] 0)).alloc (.map #[] 0)).heap.size ((w.alloc (.map #[] 0)).alloc (.map #[] 0)) (((w.alloc (.map #[] 0)).alloc (.map #[] 0)).alloc (.cells #[.map (some w.heap.size), .map (some (w.heap.size + 1))] 67)) := (Below.refl _ _).alloc (Nat.le_refl _) _
  rw [s2, s1] at e
  have m1' := (m1.below a1).below a2
  have m2' := m2.below a2
  rw [s1] at m2'
  go_ret
  refine ⟨⟨w.heap.size + 2, w.heap.size, w.heap.size + 1, rfl, ⟨e, m1', m2', by omega⟩, by omega, by omega, by omega⟩, b2.alloc (by rw [s2, s1]; omega) _⟩

set_option maxRecDepth 100000 in
set_option maxHeartbeats 2000000 in
theorem INewest_val (w : World) (X bn bp n m : Nat) (N : ByteArray → Option Ent) (Q : Plc → Option ByteArray) (i : ByteArray) (h : Ix w X bn bp n m N Q) (hi : i.size ≤ 140737488351232) :
    Calls Try.prog 16 #[.pointer (some ⟨X, 0, none⟩), .string i] w fun e w' => e = .returned (.tuple #[.agg ((N i).getD Ent.zero).row, .bool (N i).isSome]) ∧ Below w.heap.size w w' := by
  have b1 : Below w.heap.size w (w.alloc (.cells #[.int .u64 0, .int .u64 0, .bool false, .int .i64 0, .int .i64 0, .int .i64 0] (49 : Nat))) := (Below.refl _ _).alloc (Nat.le_refl _) _
  have hl := (h.below b1).lookN i hi
  obtain ⟨s, hs⟩ : ∃ s, s = (N i).getD Ent.zero := ⟨_, rfl⟩
  obtain ⟨z, hz⟩ : ∃ z, z = (N i).isSome := ⟨_, rfl⟩
  rw [← hs, ← hz] at hl
  rw [← hs, ← hz]
  have c0 := (h.below b1).c0
  obtain ⟨a, d, l, u, v, x⟩ := s
  simp only [Ent.row] at hl ⊢
  clear hs hz h b1
  go_enter Try.func16, Try.ntmps16
  go_wp2_with fail
  refine bodyPost_ret (v := .tuple #[.agg #[.int .u64 (a : Int), .int .u64 (d : Int), .bool l, .int .i64 u, .int .i64 v, .int .i64 x], .bool z]) ?_ rfl ⟨rfl, ?_⟩
  · exact results_cell_tmp_row (p := 4) (u := 5) (ty := (49 : Nat)) rfl _ _ w.heap.size (49 : Nat) _ (0, 0) _ rfl (two_newR w (.cells #[.int .u64 (a : Int), .int .u64 (d : Int), .bool l, .int .i64 u, .int .i64 v, .int .i64 x] (49 : Nat)) (.cells #[.int .u64 (a : Int), .int .u64 (d : Int), .bool l, .int .i64 u, .int .i64 v, .int .i64 x] (49 : Nat))).1 Try.underlying49 rfl (by kernel_rfl)
  · exact ((Below.refl _ _).alloc (Nat.le_refl _) _).alloc (by rw [alloc_sizeR]; omega) _
set_option maxRecDepth 100000 in
set_option maxHeartbeats 2000000 in
theorem IAt_val (w : World) (X bn bp n m : Nat) (N : ByteArray → Option Ent) (Q : Plc → Option ByteArray) (p : Plc) (h : Ix w X bn bp n m N Q) (hp : kP.ok p) :
    Calls Try.prog 17 #[.pointer (some ⟨X, 0, none⟩), .agg #[.int .i64 p.1, .int .i64 p.2]] w fun e w' => e = .returned (.tuple #[.string ((Q p).getD ⟨#[]⟩), .bool (Q p).isSome]) ∧ Below w.heap.size w w' := by
  have b0 : Below w.heap.size w (w.alloc (.cells #[.int .i64 p.1, .int .i64 p.2] (36 : Nat))).drew := below_drew ((Below.refl _ _).alloc (Nat.le_refl _) _)
  have b1 : Below w.heap.size w ((w.alloc (.cells #[.int .i64 p.1, .int .i64 p.2] (36 : Nat))).alloc (.cells #[.string ⟨#[]⟩] (82 : Nat))).drew := below_drew (((Below.refl _ _).alloc (Nat.le_refl _) _).alloc (by rw [alloc_sizeR]; omega) _)
  have hl := (h.below b0).lookP p hp
  have hl2 := (h.below b1).lookP p hp
  obtain ⟨s, hs⟩ : ∃ s, s = (Q p).getD ⟨#[]⟩ := ⟨_, rfl⟩
  obtain ⟨z, hz⟩ : ∃ z, z = (Q p).isSome := ⟨_, rfl⟩
  rw [← hs, ← hz] at hl hl2
  rw [← hs, ← hz]
  have c0 := (h.below b0).c1
  have c1 := (h.below b1).c1
  obtain ⟨p1, p2⟩ := p
  simp only at hl hl2 c0 c1 ⊢
  clear hs hz h b0 b1 hp
  go_enter Try.func17, Try.ntmps17
  go_wp2_with fail
  go_region
  all_goals
    go_wp2_with fail
    go_ret2
    exact ⟨rfl, below_drew (((Below.refl _ _).alloc (Nat.le_refl _) _).alloc (by rw [alloc_sizeR]; omega) _)⟩
def killN (N : ByteArray → Option Ent) (i : ByteArray) : ByteArray → Option Ent := match N i with
  | some e => if e.live = true then updM N i (some { e with live := false }) else N
  | none => N
def killB (N : ByteArray → Option Ent) (i : ByteArray) : Bool := match N i with
  | some e => e.live
  | none => false
set_option maxRecDepth 100000 in
set_option maxHeartbeats 2000000 in
theorem IKill_val (w : World) (X bn bp n m : Nat) (N : ByteArray → Option Ent) (Q : Plc → Option ByteArray) (i : ByteArray) (h : Ix w X bn bp n m N Q) (hn : n < 1000000) (hi : i.size ≤ 140737488351232) :
    Calls Try.prog 13 #[.pointer (some ⟨X, 0, none⟩), .string i] w fun e w' => e = .returned (.bool (killB N i)) ∧ Ix w' X bn bp (n + 1) m (killN N i) Q ∧ Mq bn bp w w' := by
  have hl := h.lookN i hi
  have c0 := h.c0
  cases hs : N i with
  | none =>
    have hB : killB N i = false := by unfold killB; rw [hs]
    have hN : killN N i = N := by unfold killN; rw [hs]
    rw [hB, hN]
    rw [hs] at hl
    have hl' : (Instr.lookup 64 (.map (some bn)) (.string i) true).run Try.prog w = .ok (.tuple #[.agg #[.int .u64 0, .int .u64 0, .bool false, .int .i64 0, .int .i64 0, .int .i64 0], .bool false]) w := hl
    have H := Lib.hid (show Ix w X bn bp (n + 1) m N Q from h.mono (Nat.le_succ n) (Nat.le_refl m))
    clear hl hs hB hN h
    go_enter Try.func13, Try.ntmps13
    go_wp2_with fail
    go_ret
    have b1 : Below w.heap.size w (w.alloc (.cells #[.int .u64 0, .int .u64 0, .bool false, .int .i64 0, .int .i64 0, .int .i64 0] (49 : Nat))) := (Below.refl _ _).alloc (Nat.le_refl _) _
    exact ⟨rfl, H.out.below b1, Mq.of_below b1⟩
  | some s =>
    rw [hs] at hl
    cases hlv : s.live with
    | false =>
      have hB : killB N i = false := by unfold killB; rw [hs]; exact hlv
      have hN : killN N i = N := by unfold killN; rw [hs]; simp [hlv]
      rw [hB, hN]
      have H := Lib.hid (show Ix w X bn bp (n + 1) m N Q from h.mono (Nat.le_succ n) (Nat.le_refl m))
      obtain ⟨a, d, l, u, v, x⟩ := s
      simp only at hlv
      subst hlv
      simp only [Option.getD_some, Option.isSome_some, Ent.row] at hl
      clear hs hB hN h
      go_enter Try.func13, Try.ntmps13
      go_wp2_with fail
      go_ret
      have b1 : Below w.heap.size w (w.alloc (.cells #[.int .u64 (a : Int), .int .u64 (d : Int), .bool false, .int .i64 u, .int .i64 v, .int .i64 x] (49 : Nat))) := (Below.refl _ _).alloc (Nat.le_refl _) _
      exact ⟨rfl, H.out.below b1, Mq.of_below b1⟩
    | true =>
      have hB : killB N i = true := by unfold killB; rw [hs]; exact hlv
      have hN : killN N i = updM N i (some { s with live := false }) := by unfold killN; rw [hs]; simp [hlv]
      rw [hB, hN]
      obtain ⟨a, d, l, u, v, x⟩ := s
      simp only at hlv
      subst hlv
      simp only [Option.getD_some, Option.isSome_some, Ent.row] at hl ⊢
      have b1 : Below w.heap.size w (w.alloc (.cells #[.int .u64 (a : Int), .int .u64 (d : Int), .bool false, .int .i64 u, .int .i64 v, .int .i64 x] (49 : Nat))).drew := below_drew ((Below.refl _ _).alloc (Nat.le_refl _) _)
      obtain ⟨w7, hrun, hx7, hm7, hz7⟩ := (h.below b1).storeN hn i hi ⟨a, d, false, u, v, x⟩
      simp only [Ent.row] at hrun
      have c0' := (h.below b1).c0
      have H7 := Lib.hid hx7
      have M7 := Lib.hid ((Mq.of_below b1).trans hm7)
      clear hs hB hN h b1 hx7 hm7 hz7
      go_enter Try.func13, Try.ntmps13
      go_wp2_with fail
      go_region
      all_goals
        go_wp2_with fail
        go_ret
        exact ⟨rfl, H7.out, M7.out⟩
def Rec.ok (r : Rec) : Prop := r.kind = 1 ∨ r.kind = 2
instance (r : Rec) : Decidable r.ok := by unfold Rec.ok; exact inferInstance
/-- the entry of a record at a place -/
def Rec.ent (r : Rec) (p : Plc) : Ent := ⟨r.ver, r.dl, decide (r.kind = 1), 31 + (r.id.size : Int) + (r.va.size : Int), p.1, p.2⟩
/-- is the record taken up at all? -/
def takes (Q : Plc → Option ByteArray) (r : Rec) (p : Plc) : Prop := Q p = none ∧ r.ok
instance (Q : Plc → Option ByteArray) (r : Rec) (p : Plc) : Decidable (takes Q r p) := by unfold takes; exact inferInstance
/-- .. and is it the newest of its id? -/
def news (N : ByteArray → Option Ent) (r : Rec) : Prop := ∀ e, N r.id = some e → e.ver ≤ r.ver
instance (N : ByteArray → Option Ent) (r : Rec) : Decidable (news N r) :=
  match h : N r.id with
  | none => isTrue (fun e he => by rw [h] at he; cases he)
  | some e0 => if hv : e0.ver ≤ r.ver then isTrue (fun e he => by rw [h] at he; rw [← Option.some.inj he]; exact hv) else isFalse (fun hh => hv (hh e0 h))
def addQ (Q : Plc → Option ByteArray) (r : Rec) (p : Plc) : Plc → Option ByteArray := if takes Q r p then updM Q p (some r.id) else Q
def addN (N : ByteArray → Option Ent) (Q : Plc → Option ByteArray) (r : Rec) (p : Plc) : ByteArray → Option Ent := if takes Q r p ∧ news N r then updM N r.id (some (r.ent p)) else N
def addB (N : ByteArray → Option Ent) (Q : Plc → Option ByteArray) (r : Rec) (p : Plc) : Bool := decide (takes Q r p ∧ news N r)
theorem Mq.row {p b i : Nat} {w w' : World} {o : Obj} (h : Mq p b w w') (hi : w.heap[i]? = some o) (hp : i ≠ p) (hb : i ≠ b) : w'.heap[i]? = some o := by
  have hlt : i < w.heap.size := by
    rcases Nat.lt_or_ge i w.heap.size with h | h
    · exact h
    · rw [Array.getElem?_eq_none h] at hi; cases hi
  exact (h.block i hlt hp hb).trans hi
set_option maxRecDepth 100000 in
set_option maxHeartbeats 2000000 in
theorem IAdd_taken (w : World) (X bn bp n m : Nat) (N : ByteArray → Option Ent) (Q : Plc → Option ByteArray) (r : Rec) (p : Plc) (h : Ix w X bn bp n m N Q) (hn : n < 1000000) (hm : m < 1000000) (hp : kP.ok p) (hi : r.id.size ≤ 1000000) (hv : r.va.size ≤ 1000000) (s : ByteArray) (hQ : Q p = some s) :
    Calls Try.prog 21 #[.pointer (some ⟨X, 0, none⟩), .agg #[.int .u64 (r.lsn : Int), .int .u32 (r.ep : Int), .int .i64 r.kind, .int .u64 (r.ver : Int), .int .u64 (r.dl : Int), .string r.id, .string r.va], .agg #[.int .i64 p.1, .int .i64 p.2]] w fun e w' => e = .returned (.bool (addB N Q r p)) ∧ Ix w' X bn bp (n + 1) (m + 1) (addN N Q r p) (addQ Q r p) ∧ Mq bn bp w w' := by
  have hlts := h.lts
  have bb0 : Below w.heap.size w ((w.alloc (.cells #[.int .u64 (r.lsn : Int), .int .u32 (r.ep : Int), .int .i64 r.kind, .int .u64 (r.ver : Int), .int .u64 (r.dl : Int), .string r.id, .string r.va] (34 : Nat))).alloc (.cells #[.int .i64 p.1, .int .i64 p.2] (36 : Nat))).drew := below_drew (((Below.refl _ _).alloc (Nat.le_refl _) _).alloc (by rw [alloc_sizeR]; omega) _)
  have bb1 : ∀ s, Below w.heap.size w (((w.alloc (.cells #[.int .u64 (r.lsn : Int), .int .u32 (r.ep : Int), .int .i64 r.kind, .int .u64 (r.ver : Int), .int .u64 (r.dl : Int), .string r.id, .string r.va] (34 : Nat))).alloc (.cells #[.int .i64 p.1, .int .i64 p.2] (36 : Nat))).alloc (.cells #[.string s] (82 : Nat))).drew := fun s => below_drew ((((Below.refl _ _).alloc (Nat.le_refl _) _).alloc (by rw [alloc_sizeR]; omega) _).alloc (by rw [alloc_sizeR, alloc_sizeR]; omega) _)
  have hl := (h.below bb0).lookP p hp
  have hl2 := (h.below (bb1 ⟨#[]⟩)).lookP p hp
  have c0 := (h.below bb0).c1
  have c1 := (h.below (bb1 ⟨#[]⟩)).c1
  have hT : ¬ takes Q r p := fun h => by have h1 := h.1; rw [hQ] at h1; cases h1
  have eB : addB N Q r p = false := decide_eq_false (fun h => hT h.1)
  have eN : addN N Q r p = N := if_neg (fun h => hT h.1)
  have eQ : addQ Q r p = Q := if_neg hT
  rw [eB, eN, eQ]
  rw [hQ] at hl hl2
  simp only [Option.getD_some, Option.isSome_some] at hl hl2
  have H := Lib.hid (show Ix w X bn bp (n + 1) (m + 1) N Q from h.mono (Nat.le_succ n) (Nat.le_succ m))
  have BB := Lib.hid (bb1 s)
  clear hT eB eN eQ hQ h bb0 bb1 hlts
  obtain ⟨rl, re, rk, rv, rd, ri, ra⟩ := r
  obtain ⟨p1, p2⟩ := p
  simp only at hl hl2 c0 c1 BB hi hv ⊢
  go_enter Try.func21, Try.ntmps21
  go_wp2_with fail
  go_region
  all_goals
    go_wp2_with fail
    go_ret
    exact ⟨rfl, H.out.below BB.out, Mq.of_below BB.out⟩
set_option maxRecDepth 100000 in
set_option maxHeartbeats 2000000 in
theorem IAdd_bad (w : World) (X bn bp n m : Nat) (N : ByteArray → Option Ent) (Q : Plc → Option ByteArray) (r : Rec) (p : Plc) (h : Ix w X bn bp n m N Q) (hn : n < 1000000) (hm : m < 1000000) (hp : kP.ok p) (hi : r.id.size ≤ 1000000) (hv : r.va.size ≤ 1000000) (hQ : Q p = none) (hk : ¬ r.ok) :
    Calls Try.prog 21 #[.pointer (some ⟨X, 0, none⟩), .agg #[.int .u64 (r.lsn : Int), .int .u32 (r.ep : Int), .int .i64 r.kind, .int .u64 (r.ver : Int), .int .u64 (r.dl : Int), .string r.id, .string r.va], .agg #[.int .i64 p.1, .int .i64 p.2]] w fun e w' => e = .returned (.bool (addB N Q r p)) ∧ Ix w' X bn bp (n + 1) (m + 1) (addN N Q r p) (addQ Q r p) ∧ Mq bn bp w w' := by
  have hlts := h.lts
  have bb0 : Below w.heap.size w ((w.alloc (.cells #[.int .u64 (r.lsn : Int), .int .u32 (r.ep : Int), .int .i64 r.kind, .int .u64 (r.ver : Int), .int .u64 (r.dl : Int), .string r.id, .string r.va] (34 : Nat))).alloc (.cells #[.int .i64 p.1, .int .i64 p.2] (36 : Nat))).drew := below_drew (((Below.refl _ _).alloc (Nat.le_refl _) _).alloc (by rw [alloc_sizeR]; omega) _)
  have bb1 : ∀ s, Below w.heap.size w (((w.alloc (.cells #[.int .u64 (r.lsn : Int), .int .u32 (r.ep : Int), .int .i64 r.kind, .int .u64 (r.ver : Int), .int .u64 (r.dl : Int), .string r.id, .string r.va] (34 : Nat))).alloc (.cells #[.int .i64 p.1, .int .i64 p.2] (36 : Nat))).alloc (.cells #[.string s] (82 : Nat))).drew := fun s => below_drew ((((Below.refl _ _).alloc (Nat.le_refl _) _).alloc (by rw [alloc_sizeR]; omega) _).alloc (by rw [alloc_sizeR, alloc_sizeR]; omega) _)
  have hl := (h.below bb0).lookP p hp
  have hl2 := (h.below (bb1 ⟨#[]⟩)).lookP p hp
  have c0 := (h.below bb0).c1
  have c1 := (h.below (bb1 ⟨#[]⟩)).c1
  have hT : ¬ takes Q r p := fun h => hk h.2
  have eB : addB N Q r p = false := decide_eq_false (fun h => hT h.1)
  have eN : addN N Q r p = N := if_neg (fun h => hT h.1)
  have eQ : addQ Q r p = Q := if_neg hT
  rw [eB, eN, eQ]
  rw [hQ] at hl hl2
  simp only [Option.getD_none, Option.isSome_none] at hl hl2
  have H := Lib.hid (show Ix w X bn bp (n + 1) (m + 1) N Q from h.mono (Nat.le_succ n) (Nat.le_succ m))
  have BB := Lib.hid (bb1 ⟨#[]⟩)
  have k1 : ¬ r.kind = 1 := fun e => hk (Or.inl e)
  have k2 : ¬ r.kind = 2 := fun e => hk (Or.inr e)
  have g1 : (r.kind != 1) = true := bne_iff_ne.2 k1
  have g2 : (r.kind = 1) = False := eq_false k1
  have g3 : (r.kind != 2) = true := bne_iff_ne.2 k2
  have g4 : (r.kind = 2) = False := eq_false k2
  clear hT eB eN eQ hQ h bb0 bb1 hlts hk k1 k2
  obtain ⟨rl, re, rk, rv, rd, ri, ra⟩ := r
  obtain ⟨p1, p2⟩ := p
  simp only at hl hl2 c0 c1 BB hi hv ⊢
  go_enter Try.func21, Try.ntmps21
  go_wp2_with fail
  go_region
  all_goals
    go_wp2_with fail
    go_ret
    exact ⟨rfl, H.out.below BB.out, Mq.of_below BB.out⟩
set_option maxRecDepth 100000 in
set_option maxHeartbeats 2000000 in
theorem IAdd_none1 (w : World) (X bn bp n m : Nat) (N : ByteArray → Option Ent) (Q : Plc → Option ByteArray) (r : Rec) (p : Plc) (h : Ix w X bn bp n m N Q) (hn : n < 1000000) (hm : m < 1000000) (hp : kP.ok p) (hi : r.id.size ≤ 1000000) (hv : r.va.size ≤ 1000000) (hQ : Q p = none) (hk : r.kind = 1) (hT : takes Q r p) (hN : N r.id = none) :
    Calls Try.prog 21 #[.pointer (some ⟨X, 0, none⟩), .agg #[.int .u64 (r.lsn : Int), .int .u32 (r.ep : Int), .int .i64 r.kind, .int .u64 (r.ver : Int), .int .u64 (r.dl : Int), .string r.id, .string r.va], .agg #[.int .i64 p.1, .int .i64 p.2]] w fun e w' => e = .returned (.bool (addB N Q r p)) ∧ Ix w' X bn bp (n + 1) (m + 1) (addN N Q r p) (addQ Q r p) ∧ Mq bn bp w w' := by
  have hlts := h.lts
  have bb0 : Below w.heap.size w ((w.alloc (.cells #[.int .u64 (r.lsn : Int), .int .u32 (r.ep : Int), .int .i64 r.kind, .int .u64 (r.ver : Int), .int .u64 (r.dl : Int), .string r.id, .string r.va] (34 : Nat))).alloc (.cells #[.int .i64 p.1, .int .i64 p.2] (36 : Nat))).drew := below_drew (((Below.refl _ _).alloc (Nat.le_refl _) _).alloc (by rw [alloc_sizeR]; omega) _)
  have bb1 : ∀ s, Below w.heap.size w (((w.alloc (.cells #[.int .u64 (r.lsn : Int), .int .u32 (r.ep : Int), .int .i64 r.kind, .int .u64 (r.ver : Int), .int .u64 (r.dl : Int), .string r.id, .string r.va] (34 : Nat))).alloc (.cells #[.int .i64 p.1, .int .i64 p.2] (36 : Nat))).alloc (.cells #[.string s] (82 : Nat))).drew := fun s => below_drew ((((Below.refl _ _).alloc (Nat.le_refl _) _).alloc (by rw [alloc_sizeR]; omega) _).alloc (by rw [alloc_sizeR, alloc_sizeR]; omega) _)
  have hl := (h.below bb0).lookP p hp
  have hl2 := (h.below (bb1 ⟨#[]⟩)).lookP p hp
  have c0 := (h.below bb0).c1
  have c1 := (h.below (bb1 ⟨#[]⟩)).c1
  have eQ : addQ Q r p = updM Q p (some r.id) := if_pos hT
  have hnw : news N r := fun e he => by rw [hN] at he; cases he
  have eB : addB N Q r p = true := decide_eq_true ⟨hT, hnw⟩
  have eN : addN N Q r p = updM N r.id (some (r.ent p)) := if_pos ⟨hT, hnw⟩
  rw [eB, eN, eQ]
  rw [hQ] at hl hl2
  simp only [Option.getD_none, Option.isSome_none] at hl hl2
  obtain ⟨w7, hrun, hx7, hm7, hz7⟩ := (h.below (below_drew (bb1 ⟨#[]⟩))).storeP hm p hp r.id
  have mq7 := (Mq.of_below (below_drew (bb1 ⟨#[]⟩))).trans hm7
  have b7 : Below w7.heap.size w7 w7.drew := below_drew (Below.refl _ _)
  have b8 : ∀ cs, Below w7.heap.size w7 (w7.alloc (.cells cs (49 : Nat))).drew := fun cs => below_drew ((Below.refl _ _).alloc (Nat.le_refl _) _)
  have hl3 := (hx7.below b7).lookN r.id (by omega)
  have hl4 := (hx7.below (b8 #[.int .u64 0, .int .u64 0, .bool false, .int .i64 0, .int .i64 0, .int .i64 0])).lookN r.id (by omega)
  have d0 := (hx7.below b7).c0
  have d1 := (hx7.below (b8 #[.int .u64 0, .int .u64 0, .bool false, .int .i64 0, .int .i64 0, .int .i64 0])).c0
  rw [hN] at hl3 hl4
  simp only [Option.getD_none, Option.isSome_none, Ent.row, Ent.zero] at hl3 hl4
  have hl3' : (Instr.lookup 64 (.map (some bn)) (.string r.id) true).run Try.prog w7.drew = .ok (.tuple #[.agg #[.int .u64 0, .int .u64 0, .bool false, .int .i64 0, .int .i64 0, .int .i64 0], .bool false]) w7.drew := hl3
  have hl4' : (Instr.lookup 64 (.map (some bn)) (.string r.id) true).run Try.prog (w7.alloc (.cells #[.int .u64 0, .int .u64 0, .bool false, .int .i64 0, .int .i64 0, .int .i64 0] (49 : Nat))).drew = .ok (.tuple #[.agg #[.int .u64 0, .int .u64 0, .bool false, .int .i64 0, .int .i64 0, .int .i64 0], .bool false]) (w7.alloc (.cells #[.int .u64 0, .int .u64 0, .bool false, .int .i64 0, .int .i64 0, .int .i64 0] (49 : Nat))).drew := hl4
  clear hl3 hl4
  have sz1 := alloc_sizeR w (.cells #[.int .u64 (r.lsn : Int), .int .u32 (r.ep : Int), .int .i64 r.kind, .int .u64 (r.ver : Int), .int .u64 (r.dl : Int), .string r.id, .string r.va] (34 : Nat))
  have sz2 := alloc_sizeR (w.alloc (.cells #[.int .u64 (r.lsn : Int), .int .u32 (r.ep : Int), .int .i64 r.kind, .int .u64 (r.ver : Int), .int .u64 (r.dl : Int), .string r.id, .string r.va] (34 : Nat))) (.cells #[.int .i64 p.1, .int .i64 p.2] (36 : Nat))
  have sz3 := alloc_sizeR ((w.alloc (.cells #[.int .u64 (r.lsn : Int), .int .u32 (r.ep : Int), .int .i64 r.kind, .int .u64 (r.ver : Int), .int .u64 (r.dl : Int), .string r.id, .string r.va] (34 : Nat))).alloc (.cells #[.int .i64 p.1, .int .i64 p.2] (36 : Nat))) (.cells #[.string ⟨#[]⟩] (82 : Nat))
  have xR0 : (((w.alloc (.cells #[.int .u64 (r.lsn : Int), .int .u32 (r.ep : Int), .int .i64 r.kind, .int .u64 (r.ver : Int), .int .u64 (r.dl : Int), .string r.id, .string r.va] (34 : Nat))).alloc (.cells #[.int .i64 p.1, .int .i64 p.2] (36 : Nat))).alloc (.cells #[.string ⟨#[]⟩] (82 : Nat))).drew.heap[w.heap.size]? = some (.cells #[.int .u64 (r.lsn : Int), .int .u32 (r.ep : Int), .int .i64 r.kind, .int .u64 (r.ver : Int), .int .u64 (r.dl : Int), .string r.id, .string r.va] (34 : Nat) (0, 0)) := (heap_alloc_old _ _ (by omega)).trans ((heap_alloc_old _ _ (by omega)).trans (heap_alloc_new _ _))
  have yR0 : (((w.alloc (.cells #[.int .u64 (r.lsn : Int), .int .u32 (r.ep : Int), .int .i64 r.kind, .int .u64 (r.ver : Int), .int .u64 (r.dl : Int), .string r.id, .string r.va] (34 : Nat))).alloc (.cells #[.int .i64 p.1, .int .i64 p.2] (36 : Nat))).alloc (.cells #[.string ⟨#[]⟩] (82 : Nat))).drew.heap[w.heap.size + 1]? = some (.cells #[.int .i64 p.1, .int .i64 p.2] (36 : Nat) (0, 0)) := (heap_alloc_old _ _ (by omega)).trans (by rw [← sz1]; exact heap_alloc_new _ _)
  have ne1 : w.heap.size ≠ bn ∧ w.heap.size ≠ bp ∧ w.heap.size + 1 ≠ bn ∧ w.heap.size + 1 ≠ bp := by omega
  have xR1 := hm7.row xR0 ne1.1 ne1.2.1
  have yR1 := hm7.row yR0 ne1.2.2.1 ne1.2.2.2
  have lt0 := lt_of_rowR xR1
  have lt1 := lt_of_rowR yR1
  obtain ⟨W8, hW8⟩ : ∃ W, W = (w7.alloc (.cells #[.int .u64 0, .int .u64 0, .bool false, .int .i64 0, .int .i64 0, .int .i64 0] (49 : Nat))).drew := ⟨_, rfl⟩
  have b78 : Below w7.heap.size w7 W8 := by rw [hW8]; exact b8 _
  have hx8 := hx7.below b78
  have mq8 := mq7.trans (Mq.of_below b78)
  have xR := (b78.block _ lt0).trans xR1
  have yR := (b78.block _ lt1).trans yR1
  have zR : W8.heap[w7.heap.size]? = some (.cells #[.int .u64 0, .int .u64 0, .bool false, .int .i64 0, .int .i64 0, .int .i64 0] (49 : Nat) (0, 0)) := by rw [hW8]; exact heap_alloc_new _ _
  have HX8 := Lib.hid hx8
  have MQ8 := Lib.hid mq8
  have HNN := Lib.hid hn
  have HID := Lib.hid (show r.id.size ≤ 140737488351232 by omega)
  have e0 := cell_regrown hx8.c0
  have HW8 := Lib.hid hW8
  clear hT eQ hnw eB eN hQ h bb0 bb1 hlts hx7 hm7 hz7 mq7 b7 b8 sz1 sz2 sz3 xR0 yR0 ne1 lt0 lt1 b78 hx8 mq8 hW8 hN
  obtain ⟨rl, re, rk, rv, rd, ri, ra⟩ := r
  obtain ⟨p1, p2⟩ := p
  simp only [Rec.ent, Ent.row] at *
  subst hk
  have wa : wrap64 (31 + (ri.size : Int)) = 31 + (ri.size : Int) := IntWalk.wrap64_in _ (by omega)
  have wb : wrap64 (31 + (ri.size : Int) + (ra.size : Int)) = 31 + (ri.size : Int) + (ra.size : Int) := IntWalk.wrap64_in _ (by omega)
  have wc : IntKind.i64.wrap (31 + (ri.size : Int)) = 31 + (ri.size : Int) := IntWalk.i64_in _ (by omega)
  have wd : IntKind.i64.wrap (31 + (ri.size : Int) + (ra.size : Int)) = 31 + (ri.size : Int) + (ra.size : Int) := IntWalk.i64_in _ (by omega)
  have x3' : W8.cell? ⟨w.heap.size, 3, none⟩ = some (.int .u64 (rv : Int)) := (cell_of_row _ _ 3 _ _ _ xR).trans rfl
  have x2 := cell_regrown (show W8.cell? ⟨w.heap.size, 2, none⟩ = some (.int .i64 1) from (cell_of_row _ _ 2 _ _ _ xR).trans rfl)
  have x3 := cell_regrown (show W8.cell? ⟨w.heap.size, 3, none⟩ = some (.int .u64 (rv : Int)) from (cell_of_row _ _ 3 _ _ _ xR).trans rfl)
  have x4 := cell_regrown (show W8.cell? ⟨w.heap.size, 4, none⟩ = some (.int .u64 (rd : Int)) from (cell_of_row _ _ 4 _ _ _ xR).trans rfl)
  have x5 := cell_regrown (show W8.cell? ⟨w.heap.size, 5, none⟩ = some (.string ri) from (cell_of_row _ _ 5 _ _ _ xR).trans rfl)
  have x6 := cell_regrown (show W8.cell? ⟨w.heap.size, 6, none⟩ = some (.string ra) from (cell_of_row _ _ 6 _ _ _ xR).trans rfl)
  have q5 : w7.cell? ⟨w.heap.size, 5, none⟩ = some (.string ri) := (cell_of_row _ _ 5 _ _ _ xR1).trans rfl
  have q5' : (w7.alloc (.cells #[.int .u64 0, .int .u64 0, .bool false, .int .i64 0, .int .i64 0, .int .i64 0] (49 : Nat))).drew.cell? ⟨w.heap.size, 5, none⟩ = some (.string ri) := (((Below.refl w7.heap.size w7).alloc (Nat.le_refl _) (.cells #[.int .u64 0, .int .u64 0, .bool false, .int .i64 0, .int .i64 0, .int .i64 0] (49 : Nat))).cell (p := ⟨w.heap.size, 5, none⟩) (lt_of_cellR q5)).trans q5
  have y0 := cell_regrown (show W8.cell? ⟨w.heap.size + 1, 0, none⟩ = some (.int .i64 p1) from (cell_of_row _ _ 0 _ _ _ yR).trans rfl)
  have y1 := cell_regrown (show W8.cell? ⟨w.heap.size + 1, 1, none⟩ = some (.int .i64 p2) from (cell_of_row _ _ 1 _ _ _ yR).trans rfl)
  clear xR yR zR xR1 yR1
  go_enter Try.func21, Try.ntmps21
  go_wp2_with fail
  go_region
  all_goals
    go_wp2_with fail
    go_region
    all_goals
      go_wp2_with fail
      go_region
      all_goals
        rw [← HW8.out]
        go_wp2_with fail
        refine Loose.wp_region_qtail 23 1 (by kernel_rfl) (by kernel_rfl) (by kernel_rfl) ?_
        simp only [List.append_eq, List.cons_append, List.nil_append, List.take_succ_cons, List.take_zero]
        repeat (go_big_quiet_step (fail))
        refine Loose.finQ_nil ?_
        intro _ hw'
        obtain ⟨⟨dq, osq⟩, hw''⟩ := hw'
        subst hw''
        have bQ := below_regrown W8 dq osq
        obtain ⟨V, hV⟩ : ∃ V, V = Go.Sort.grow (Go.redrawn W8 dq) osq := ⟨_, rfl⟩
        rw [← hV] at bQ
        rw [← hV]
        obtain ⟨w9, hrun9, hx9, hm9, hz9⟩ := (HX8.out.below bQ).storeN HNN.out ri HID.out ⟨rv, rd, true, 31 + (ri.size : Int) + (ra.size : Int), p1, p2⟩
        have H9 := Lib.hid hx9
        have M9 := Lib.hid ((MQ8.out.trans (Mq.of_below bQ)).trans hm9)
        simp only [Ent.row] at hrun9
        clear hx9 hm9 hz9 x2 x3 x4 x5 x6 y0 y1 e0 bQ hV
        go_simp
        refine wpAny_one 23 ?_ rfl ?_
        · kernel_rfl
        intro K hK
        rw [if_pos (by rfl)]
        go_simp
        refine hK _ _ ?_
        clear hK K
        refine wpAny_done (by kernel_rfl) ?_ _
        go_wp2_with fail
        go_ret
        exact ⟨rfl, H9.out, M9.out⟩
set_option maxRecDepth 100000 in
set_option maxHeartbeats 2000000 in
theorem IAdd_lt1 (w : World) (X bn bp n m : Nat) (N : ByteArray → Option Ent) (Q : Plc → Option ByteArray) (r : Rec) (p : Plc) (h : Ix w X bn bp n m N Q) (hn : n < 1000000) (hm : m < 1000000) (hp : kP.ok p) (hi : r.id.size ≤ 1000000) (hv : r.va.size ≤ 1000000) (hQ : Q p = none) (hk : r.kind = 1) (hT : takes Q r p) (s : Ent) (hN : N r.id = some s) (hvv : r.ver < s.ver) :
    Calls Try.prog 21 #[.pointer (some ⟨X, 0, none⟩), .agg #[.int .u64 (r.lsn : Int), .int .u32 (r.ep : Int), .int .i64 r.kind, .int .u64 (r.ver : Int), .int .u64 (r.dl : Int), .string r.id, .string r.va], .agg #[.int .i64 p.1, .int .i64 p.2]] w fun e w' => e = .returned (.bool (addB N Q r p)) ∧ Ix w' X bn bp (n + 1) (m + 1) (addN N Q r p) (addQ Q r p) ∧ Mq bn bp w w' := by
  have hlts := h.lts
  have bb0 : Below w.heap.size w ((w.alloc (.cells #[.int .u64 (r.lsn : Int), .int .u32 (r.ep : Int), .int .i64 r.kind, .int .u64 (r.ver : Int), .int .u64 (r.dl : Int), .string r.id, .string r.va] (34 : Nat))).alloc (.cells #[.int .i64 p.1, .int .i64 p.2] (36 : Nat))).drew := below_drew (((Below.refl _ _).alloc (Nat.le_refl _) _).alloc (by rw [alloc_sizeR]; omega) _)
  have bb1 : ∀ s, Below w.heap.size w (((w.alloc (.cells #[.int .u64 (r.lsn : Int), .int .u32 (r.ep : Int), .int .i64 r.kind, .int .u64 (r.ver : Int), .int .u64 (r.dl : Int), .string r.id, .string r.va] (34 : Nat))).alloc (.cells #[.int .i64 p.1, .int .i64 p.2] (36 : Nat))).alloc (.cells #[.string s] (82 : Nat))).drew := fun s => below_drew ((((Below.refl _ _).alloc (Nat.le_refl _) _).alloc (by rw [alloc_sizeR]; omega) _).alloc (by rw [alloc_sizeR, alloc_sizeR]; omega) _)
  have hl := (h.below bb0).lookP p hp
  have hl2 := (h.below (bb1 ⟨#[]⟩)).lookP p hp
  have c0 := (h.below bb0).c1
  have c1 := (h.below (bb1 ⟨#[]⟩)).c1
  have eQ : addQ Q r p = updM Q p (some r.id) := if_pos hT
  have hnw : ¬ news N r := fun hh => by have := hh s hN; omega
  have eB : addB N Q r p = false := decide_eq_false (fun h => hnw h.2)
  have eN : addN N Q r p = N := if_neg (fun h => hnw h.2)
  rw [eB, eN, eQ]
  rw [hQ] at hl hl2
  simp only [Option.getD_none, Option.isSome_none] at hl hl2
  obtain ⟨w7, hrun, hx7, hm7, hz7⟩ := (h.below (below_drew (bb1 ⟨#[]⟩))).storeP hm p hp r.id
  have mq7 := (Mq.of_below (below_drew (bb1 ⟨#[]⟩))).trans hm7
  have b7 : Below w7.heap.size w7 w7.drew := below_drew (Below.refl _ _)
  have b8 : ∀ cs, Below w7.heap.size w7 (w7.alloc (.cells cs (49 : Nat))).drew := fun cs => below_drew ((Below.refl _ _).alloc (Nat.le_refl _) _)
  have hl3 := (hx7.below b7).lookN r.id (by omega)
  have hl4 := (hx7.below (b8 #[.int .u64 0, .int .u64 0, .bool false, .int .i64 0, .int .i64 0, .int .i64 0])).lookN r.id (by omega)
  have d0 := (hx7.below b7).c0
  have d1 := (hx7.below (b8 #[.int .u64 0, .int .u64 0, .bool false, .int .i64 0, .int .i64 0, .int .i64 0])).c0
  rw [hN] at hl3 hl4
  obtain ⟨a, d, l, u, v, x⟩ := s
  simp only [Option.getD_some, Option.isSome_some, Ent.row] at hl3 hl4 hvv
  have sz1 := alloc_sizeR w (.cells #[.int .u64 (r.lsn : Int), .int .u32 (r.ep : Int), .int .i64 r.kind, .int .u64 (r.ver : Int), .int .u64 (r.dl : Int), .string r.id, .string r.va] (34 : Nat))
  have sz2 := alloc_sizeR (w.alloc (.cells #[.int .u64 (r.lsn : Int), .int .u32 (r.ep : Int), .int .i64 r.kind, .int .u64 (r.ver : Int), .int .u64 (r.dl : Int), .string r.id, .string r.va] (34 : Nat))) (.cells #[.int .i64 p.1, .int .i64 p.2] (36 : Nat))
  have sz3 := alloc_sizeR ((w.alloc (.cells #[.int .u64 (r.lsn : Int), .int .u32 (r.ep : Int), .int .i64 r.kind, .int .u64 (r.ver : Int), .int .u64 (r.dl : Int), .string r.id, .string r.va] (34 : Nat))).alloc (.cells #[.int .i64 p.1, .int .i64 p.2] (36 : Nat))) (.cells #[.string ⟨#[]⟩] (82 : Nat))
  have xR0 : (((w.alloc (.cells #[.int .u64 (r.lsn : Int), .int .u32 (r.ep : Int), .int .i64 r.kind, .int .u64 (r.ver : Int), .int .u64 (r.dl : Int), .string r.id, .string r.va] (34 : Nat))).alloc (.cells #[.int .i64 p.1, .int .i64 p.2] (36 : Nat))).alloc (.cells #[.string ⟨#[]⟩] (82 : Nat))).drew.heap[w.heap.size]? = some (.cells #[.int .u64 (r.lsn : Int), .int .u32 (r.ep : Int), .int .i64 r.kind, .int .u64 (r.ver : Int), .int .u64 (r.dl : Int), .string r.id, .string r.va] (34 : Nat) (0, 0)) := (heap_alloc_old _ _ (by omega)).trans ((heap_alloc_old _ _ (by omega)).trans (heap_alloc_new _ _))
  have yR0 : (((w.alloc (.cells #[.int .u64 (r.lsn : Int), .int .u32 (r.ep : Int), .int .i64 r.kind, .int .u64 (r.ver : Int), .int .u64 (r.dl : Int), .string r.id, .string r.va] (34 : Nat))).alloc (.cells #[.int .i64 p.1, .int .i64 p.2] (36 : Nat))).alloc (.cells #[.string ⟨#[]⟩] (82 : Nat))).drew.heap[w.heap.size + 1]? = some (.cells #[.int .i64 p.1, .int .i64 p.2] (36 : Nat) (0, 0)) := (heap_alloc_old _ _ (by omega)).trans (by rw [← sz1]; exact heap_alloc_new _ _)
  have ne1 : w.heap.size ≠ bn ∧ w.heap.size ≠ bp ∧ w.heap.size + 1 ≠ bn ∧ w.heap.size + 1 ≠ bp := by omega
  have xR1 := hm7.row xR0 ne1.1 ne1.2.1
  have yR1 := hm7.row yR0 ne1.2.2.1 ne1.2.2.2
  have lt0 := lt_of_rowR xR1
  have lt1 := lt_of_rowR yR1
  obtain ⟨W8, hW8⟩ : ∃ W, W = (w7.alloc (.cells #[.int .u64 (a : Int), .int .u64 (d : Int), .bool l, .int .i64 u, .int .i64 v, .int .i64 x] (49 : Nat))).drew := ⟨_, rfl⟩
  have b78 : Below w7.heap.size w7 W8 := by rw [hW8]; exact b8 _
  have hx8 := hx7.below b78
  have mq8 := mq7.trans (Mq.of_below b78)
  have xR := (b78.block _ lt0).trans xR1
  have yR := (b78.block _ lt1).trans yR1
  have zR : W8.heap[w7.heap.size]? = some (.cells #[.int .u64 (a : Int), .int .u64 (d : Int), .bool l, .int .i64 u, .int .i64 v, .int .i64 x] (49 : Nat) (0, 0)) := by rw [hW8]; exact heap_alloc_new _ _
  have H9 := Lib.hid (show Ix W8 X bn bp (n + 1) (m + 1) N (updM Q p (some r.id)) from hx8.mono (Nat.le_succ n) (Nat.le_refl _))
  have M9 := Lib.hid mq8
  have HW8 := Lib.hid hW8
  clear hT eQ hnw eB eN hQ h bb0 bb1 hlts hx7 hm7 hz7 mq7 b7 b8 sz1 sz2 sz3 xR0 yR0 ne1 lt0 lt1 b78 hx8 mq8 hW8 hN
  obtain ⟨rl, re, rk, rv, rd, ri, ra⟩ := r
  obtain ⟨p1, p2⟩ := p
  simp only [Rec.ent, Ent.row] at *
  subst hk
  have v1 : (rv < a) = True := eq_true hvv
  have v2 : ((a : Int) > (rv : Int)) = True := eq_true (by omega)
  clear hvv
  have x3 : W8.cell? ⟨w.heap.size, 3, none⟩ = some (.int .u64 (rv : Int)) := (cell_of_row _ _ 3 _ _ _ xR).trans rfl
  have q5 : w7.cell? ⟨w.heap.size, 5, none⟩ = some (.string ri) := (cell_of_row _ _ 5 _ _ _ xR1).trans rfl
  have q5' : (w7.alloc (.cells #[.int .u64 0, .int .u64 0, .bool false, .int .i64 0, .int .i64 0, .int .i64 0] (49 : Nat))).drew.cell? ⟨w.heap.size, 5, none⟩ = some (.string ri) := (((Below.refl w7.heap.size w7).alloc (Nat.le_refl _) (.cells #[.int .u64 0, .int .u64 0, .bool false, .int .i64 0, .int .i64 0, .int .i64 0] (49 : Nat))).cell (p := ⟨w.heap.size, 5, none⟩) (lt_of_cellR q5)).trans q5
  have z0 : W8.cell? ⟨w7.heap.size, 0, none⟩ = some (.int .u64 (a : Int)) := (cell_of_row _ _ 0 _ _ _ zR).trans rfl
  clear xR yR zR xR1 yR1
  go_enter Try.func21, Try.ntmps21
  go_wp2_with fail
  go_region
  all_goals
    go_wp2_with fail
    go_region
    all_goals
      go_wp2_with fail
      go_region
      all_goals
        rw [← HW8.out]
        go_wp2_with fail
        go_ret
        exact ⟨rfl, H9.out, M9.out⟩
set_option maxRecDepth 100000 in
set_option maxHeartbeats 2000000 in
theorem IAdd_ge1 (w : World) (X bn bp n m : Nat) (N : ByteArray → Option Ent) (Q : Plc → Option ByteArray) (r : Rec) (p : Plc) (h : Ix w X bn bp n m N Q) (hn : n < 1000000) (hm : m < 1000000) (hp : kP.ok p) (hi : r.id.size ≤ 1000000) (hv : r.va.size ≤ 1000000) (hQ : Q p = none) (hk : r.kind = 1) (hT : takes Q r p) (s : Ent) (hN : N r.id = some s) (hvv : ¬ r.ver < s.ver) :
    Calls Try.prog 21 #[.pointer (some ⟨X, 0, none⟩), .agg #[.int .u64 (r.lsn : Int), .int .u32 (r.ep : Int), .int .i64 r.kind, .int .u64 (r.ver : Int), .int .u64 (r.dl : Int), .string r.id, .string r.va], .agg #[.int .i64 p.1, .int .i64 p.2]] w fun e w' => e = .returned (.bool (addB N Q r p)) ∧ Ix w' X bn bp (n + 1) (m + 1) (addN N Q r p) (addQ Q r p) ∧ Mq bn bp w w' := by
  have hlts := h.lts
  have bb0 : Below w.heap.size w ((w.alloc (.cells #[.int .u64 (r.lsn : Int), .int .u32 (r.ep : Int), .int .i64 r.kind, .int .u64 (r.ver : Int), .int .u64 (r.dl : Int), .string r.id, .string r.va] (34 : Nat))).alloc (.cells #[.int .i64 p.1, .int .i64 p.2] (36 : Nat))).drew := below_drew (((Below.refl _ _).alloc (Nat.le_refl _) _).alloc (by rw [alloc_sizeR]; omega) _)
  have bb1 : ∀ s, Below w.heap.size w (((w.alloc (.cells #[.int .u64 (r.lsn : Int), .int .u32 (r.ep : Int), .int .i64 r.kind, .int .u64 (r.ver : Int), .int .u64 (r.dl : Int), .string r.id, .string r.va] (34 : Nat))).alloc (.cells #[.int .i64 p.1, .int .i64 p.2] (36 : Nat))).alloc (.cells #[.string s] (82 : Nat))).drew := fun s => below_drew ((((Below.refl _ _).alloc (Nat.le_refl _) _).alloc (by rw [alloc_sizeR]; omega) _).alloc (by rw [alloc_sizeR, alloc_sizeR]; omega) _)
  have hl := (h.below bb0).lookP p hp
  have hl2 := (h.below (bb1 ⟨#[]⟩)).lookP p hp
  have c0 := (h.below bb0).c1
  have c1 := (h.below (bb1 ⟨#[]⟩)).c1
  have eQ : addQ Q r p = updM Q p (some r.id) := if_pos hT
  have hnw : news N r := fun e he => by rw [hN] at he; rw [← Option.some.inj he]; omega
  have eB : addB N Q r p = true := decide_eq_true ⟨hT, hnw⟩
  have eN : addN N Q r p = updM N r.id (some (r.ent p)) := if_pos ⟨hT, hnw⟩
  rw [eB, eN, eQ]
  rw [hQ] at hl hl2
  simp only [Option.getD_none, Option.isSome_none] at hl hl2
  obtain ⟨w7, hrun, hx7, hm7, hz7⟩ := (h.below (below_drew (bb1 ⟨#[]⟩))).storeP hm p hp r.id
  have mq7 := (Mq.of_below (below_drew (bb1 ⟨#[]⟩))).trans hm7
  have b7 : Below w7.heap.size w7 w7.drew := below_drew (Below.refl _ _)
  have b8 : ∀ cs, Below w7.heap.size w7 (w7.alloc (.cells cs (49 : Nat))).drew := fun cs => below_drew ((Below.refl _ _).alloc (Nat.le_refl _) _)
  have hl3 := (hx7.below b7).lookN r.id (by omega)
  have hl4 := (hx7.below (b8 #[.int .u64 0, .int .u64 0, .bool false, .int .i64 0, .int .i64 0, .int .i64 0])).lookN r.id (by omega)
  have d0 := (hx7.below b7).c0
  have d1 := (hx7.below (b8 #[.int .u64 0, .int .u64 0, .bool false, .int .i64 0, .int .i64 0, .int .i64 0])).c0
  rw [hN] at hl3 hl4
  obtain ⟨a, d, l, u, v, x⟩ := s
  simp only [Option.getD_some, Option.isSome_some, Ent.row] at hl3 hl4 hvv
  have sz1 := alloc_sizeR w (.cells #[.int .u64 (r.lsn : Int), .int .u32 (r.ep : Int), .int .i64 r.kind, .int .u64 (r.ver : Int), .int .u64 (r.dl : Int), .string r.id, .string r.va] (34 : Nat))
  have sz2 := alloc_sizeR (w.alloc (.cells #[.int .u64 (r.lsn : Int), .int .u32 (r.ep : Int), .int .i64 r.kind, .int .u64 (r.ver : Int), .int .u64 (r.dl : Int), .string r.id, .string r.va] (34 : Nat))) (.cells #[.int .i64 p.1, .int .i64 p.2] (36 : Nat))
  have sz3 := alloc_sizeR ((w.alloc (.cells #[.int .u64 (r.lsn : Int), .int .u32 (r.ep : Int), .int .i64 r.kind, .int .u64 (r.ver : Int), .int .u64 (r.dl : Int), .string r.id, .string r.va] (34 : Nat))).alloc (.cells #[.int .i64 p.1, .int .i64 p.2] (36 : Nat))) (.cells #[.string ⟨#[]⟩] (82 : Nat))
  have xR0 : (((w.alloc (.cells #[.int .u64 (r.lsn : Int), .int .u32 (r.ep : Int), .int .i64 r.kind, .int .u64 (r.ver : Int), .int .u64 (r.dl : Int), .string r.id, .string r.va] (34 : Nat))).alloc (.cells #[.int .i64 p.1, .int .i64 p.2] (36 : Nat))).alloc (.cells #[.string ⟨#[]⟩] (82 : Nat))).drew.heap[w.heap.size]? = some (.cells #[.int .u64 (r.lsn : Int), .int .u32 (r.ep : Int), .int .i64 r.kind, .int .u64 (r.ver : Int), .int .u64 (r.dl : Int), .string r.id, .string r.va] (34 : Nat) (0, 0)) := (heap_alloc_old _ _ (by omega)).trans ((heap_alloc_old _ _ (by omega)).trans (heap_alloc_new _ _))
  have yR0 : (((w.alloc (.cells #[.int .u64 (r.lsn : Int), .int .u32 (r.ep : Int), .int .i64 r.kind, .int .u64 (r.ver : Int), .int .u64 (r.dl : Int), .string r.id, .string r.va] (34 : Nat))).alloc (.cells #[.int .i64 p.1, .int .i64 p.2] (36 : Nat))).alloc (.cells #[.string ⟨#[]⟩] (82 : Nat))).drew.heap[w.heap.size + 1]? = some (.cells #[.int .i64 p.1, .int .i64 p.2] (36 : Nat) (0, 0)) := (heap_alloc_old _ _ (by omega)).trans (by rw [← sz1]; exact heap_alloc_new _ _)
  have ne1 : w.heap.size ≠ bn ∧ w.heap.size ≠ bp ∧ w.heap.size + 1 ≠ bn ∧ w.heap.size + 1 ≠ bp := by omega
  have xR1 := hm7.row xR0 ne1.1 ne1.2.1
  have yR1 := hm7.row yR0 ne1.2.2.1 ne1.2.2.2
  have lt0 := lt_of_rowR xR1
  have lt1 := lt_of_rowR yR1
  obtain ⟨W8, hW8⟩ : ∃ W, W = (w7.alloc (.cells #[.int .u64 (a : Int), .int .u64 (d : Int), .bool l, .int .i64 u, .int .i64 v, .int .i64 x] (49 : Nat))).drew := ⟨_, rfl⟩
  have b78 : Below w7.heap.size w7 W8 := by rw [hW8]; exact b8 _
  have hx8 := hx7.below b78
  have mq8 := mq7.trans (Mq.of_below b78)
  have xR := (b78.block _ lt0).trans xR1
  have yR := (b78.block _ lt1).trans yR1
  have zR : W8.heap[w7.heap.size]? = some (.cells #[.int .u64 (a : Int), .int .u64 (d : Int), .bool l, .int .i64 u, .int .i64 v, .int .i64 x] (49 : Nat) (0, 0)) := by rw [hW8]; exact heap_alloc_new _ _
  have HX8 := Lib.hid hx8
  have MQ8 := Lib.hid mq8
  have HNN := Lib.hid hn
  have HID := Lib.hid (show r.id.size ≤ 140737488351232 by omega)
  have e0 := cell_regrown hx8.c0
  have HW8 := Lib.hid hW8
  clear hT eQ hnw eB eN hQ h bb0 bb1 hlts hx7 hm7 hz7 mq7 b7 b8 sz1 sz2 sz3 xR0 yR0 ne1 lt0 lt1 b78 hx8 mq8 hW8 hN
  obtain ⟨rl, re, rk, rv, rd, ri, ra⟩ := r
  obtain ⟨p1, p2⟩ := p
  simp only [Rec.ent, Ent.row] at *
  subst hk
  have wa : wrap64 (31 + (ri.size : Int)) = 31 + (ri.size : Int) := IntWalk.wrap64_in _ (by omega)
  have wb : wrap64 (31 + (ri.size : Int) + (ra.size : Int)) = 31 + (ri.size : Int) + (ra.size : Int) := IntWalk.wrap64_in _ (by omega)
  have wc : IntKind.i64.wrap (31 + (ri.size : Int)) = 31 + (ri.size : Int) := IntWalk.i64_in _ (by omega)
  have wd : IntKind.i64.wrap (31 + (ri.size : Int) + (ra.size : Int)) = 31 + (ri.size : Int) + (ra.size : Int) := IntWalk.i64_in _ (by omega)
  have v1 : (rv < a) = False := eq_false (by omega)
  have v2 : ((a : Int) > (rv : Int)) = False := eq_false (by omega)
  clear hvv
  have x3' : W8.cell? ⟨w.heap.size, 3, none⟩ = some (.int .u64 (rv : Int)) := (cell_of_row _ _ 3 _ _ _ xR).trans rfl
  have x2 := cell_regrown (show W8.cell? ⟨w.heap.size, 2, none⟩ = some (.int .i64 1) from (cell_of_row _ _ 2 _ _ _ xR).trans rfl)
  have x3 := cell_regrown (show W8.cell? ⟨w.heap.size, 3, none⟩ = some (.int .u64 (rv : Int)) from (cell_of_row _ _ 3 _ _ _ xR).trans rfl)
  have x4 := cell_regrown (show W8.cell? ⟨w.heap.size, 4, none⟩ = some (.int .u64 (rd : Int)) from (cell_of_row _ _ 4 _ _ _ xR).trans rfl)
  have x5 := cell_regrown (show W8.cell? ⟨w.heap.size, 5, none⟩ = some (.string ri) from (cell_of_row _ _ 5 _ _ _ xR).trans rfl)
  have x6 := cell_regrown (show W8.cell? ⟨w.heap.size, 6, none⟩ = some (.string ra) from (cell_of_row _ _ 6 _ _ _ xR).trans rfl)
  have q5 : w7.cell? ⟨w.heap.size, 5, none⟩ = some (.string ri) := (cell_of_row _ _ 5 _ _ _ xR1).trans rfl
  have q5' : (w7.alloc (.cells #[.int .u64 0, .int .u64 0, .bool false, .int .i64 0, .int .i64 0, .int .i64 0] (49 : Nat))).drew.cell? ⟨w.heap.size, 5, none⟩ = some (.string ri) := (((Below.refl w7.heap.size w7).alloc (Nat.le_refl _) (.cells #[.int .u64 0, .int .u64 0, .bool false, .int .i64 0, .int .i64 0, .int .i64 0] (49 : Nat))).cell (p := ⟨w.heap.size, 5, none⟩) (lt_of_cellR q5)).trans q5
  have y0 := cell_regrown (show W8.cell? ⟨w.heap.size + 1, 0, none⟩ = some (.int .i64 p1) from (cell_of_row _ _ 0 _ _ _ yR).trans rfl)
  have y1 := cell_regrown (show W8.cell? ⟨w.heap.size + 1, 1, none⟩ = some (.int .i64 p2) from (cell_of_row _ _ 1 _ _ _ yR).trans rfl)
  have z0 : W8.cell? ⟨w7.heap.size, 0, none⟩ = some (.int .u64 (a : Int)) := (cell_of_row _ _ 0 _ _ _ zR).trans rfl
  clear xR yR zR xR1 yR1
  go_enter Try.func21, Try.ntmps21
  go_wp2_with fail
  go_region
  all_goals
    go_wp2_with fail
    go_region
    all_goals
      go_wp2_with fail
      go_region
      all_goals
        rw [← HW8.out]
        go_wp2_with fail
        refine Loose.wp_region_qtail 23 1 (by kernel_rfl) (by kernel_rfl) (by kernel_rfl) ?_
        simp only [List.append_eq, List.cons_append, List.nil_append, List.take_succ_cons, List.take_zero]
        repeat (go_big_quiet_step (fail))
        refine Loose.finQ_nil ?_
        intro _ hw'
        obtain ⟨⟨dq, osq⟩, hw''⟩ := hw'
        subst hw''
        have bQ := below_regrown W8 dq osq
        obtain ⟨V, hV⟩ : ∃ V, V = Go.Sort.grow (Go.redrawn W8 dq) osq := ⟨_, rfl⟩
        rw [← hV] at bQ
        rw [← hV]
        obtain ⟨w9, hrun9, hx9, hm9, hz9⟩ := (HX8.out.below bQ).storeN HNN.out ri HID.out ⟨rv, rd, true, 31 + (ri.size : Int) + (ra.size : Int), p1, p2⟩
        have H9 := Lib.hid hx9
        have M9 := Lib.hid ((MQ8.out.trans (Mq.of_below bQ)).trans hm9)
        simp only [Ent.row] at hrun9
        clear hx9 hm9 hz9 x2 x3 x4 x5 x6 y0 y1 e0 bQ hV
        go_simp
        refine wpAny_one 23 ?_ rfl ?_
        · kernel_rfl
        intro K hK
        rw [if_pos (by rfl)]
        go_simp
        refine hK _ _ ?_
        clear hK K
        refine wpAny_done (by kernel_rfl) ?_ _
        go_wp2_with fail
        go_ret
        exact ⟨rfl, H9.out, M9.out⟩
set_option maxRecDepth 100000 in
set_option maxHeartbeats 2000000 in
theorem IAdd_none2 (w : World) (X bn bp n m : Nat) (N : ByteArray → Option Ent) (Q : Plc → Option ByteArray) (r : Rec) (p : Plc) (h : Ix w X bn bp n m N Q) (hn : n < 1000000) (hm : m < 1000000) (hp : kP.ok p) (hi : r.id.size ≤ 1000000) (hv : r.va.size ≤ 1000000) (hQ : Q p = none) (hk : r.kind = 2) (hT : takes Q r p) (hN : N r.id = none) :
    Calls Try.prog 21 #[.pointer (some ⟨X, 0, none⟩), .agg #[.int .u64 (r.lsn : Int), .int .u32 (r.ep : Int), .int .i64 r.kind, .int .u64 (r.ver : Int), .int .u64 (r.dl : Int), .string r.id, .string r.va], .agg #[.int .i64 p.1, .int .i64 p.2]] w fun e w' => e = .returned (.bool (addB N Q r p)) ∧ Ix w' X bn bp (n + 1) (m + 1) (addN N Q r p) (addQ Q r p) ∧ Mq bn bp w w' := by
  have hlts := h.lts
  have bb0 : Below w.heap.size w ((w.alloc (.cells #[.int .u64 (r.lsn : Int), .int .u32 (r.ep : Int), .int .i64 r.kind, .int .u64 (r.ver : Int), .int .u64 (r.dl : Int), .string r.id, .string r.va] (34 : Nat))).alloc (.cells #[.int .i64 p.1, .int .i64 p.2] (36 : Nat))).drew := below_drew (((Below.refl _ _).alloc (Nat.le_refl _) _).alloc (by rw [alloc_sizeR]; omega) _)
  have bb1 : ∀ s, Below w.heap.size w (((w.alloc (.cells #[.int .u64 (r.lsn : Int), .int .u32 (r.ep : Int), .int .i64 r.kind, .int .u64 (r.ver : Int), .int .u64 (r.dl : Int), .string r.id, .string r.va] (34 : Nat))).alloc (.cells #[.int .i64 p.1, .int .i64 p.2] (36 : Nat))).alloc (.cells #[.string s] (82 : Nat))).drew := fun s => below_drew ((((Below.refl _ _).alloc (Nat.le_refl _) _).alloc (by rw [alloc_sizeR]; omega) _).alloc (by rw [alloc_sizeR, alloc_sizeR]; omega) _)
  have hl := (h.below bb0).lookP p hp
  have hl2 := (h.below (bb1 ⟨#[]⟩)).lookP p hp
  have c0 := (h.below bb0).c1
  have c1 := (h.below (bb1 ⟨#[]⟩)).c1
  have eQ : addQ Q r p = updM Q p (some r.id) := if_pos hT
  have hnw : news N r := fun e he => by rw [hN] at he; cases he
  have eB : addB N Q r p = true := decide_eq_true ⟨hT, hnw⟩
  have eN : addN N Q r p = updM N r.id (some (r.ent p)) := if_pos ⟨hT, hnw⟩
  rw [eB, eN, eQ]
  rw [hQ] at hl hl2
  simp only [Option.getD_none, Option.isSome_none] at hl hl2
  obtain ⟨w7, hrun, hx7, hm7, hz7⟩ := (h.below (below_drew (bb1 ⟨#[]⟩))).storeP hm p hp r.id
  have mq7 := (Mq.of_below (below_drew (bb1 ⟨#[]⟩))).trans hm7
  have b7 : Below w7.heap.size w7 w7.drew := below_drew (Below.refl _ _)
  have b8 : ∀ cs, Below w7.heap.size w7 (w7.alloc (.cells cs (49 : Nat))).drew := fun cs => below_drew ((Below.refl _ _).alloc (Nat.le_refl _) _)
  have hl3 := (hx7.below b7).lookN r.id (by omega)
  have hl4 := (hx7.below (b8 #[.int .u64 0, .int .u64 0, .bool false, .int .i64 0, .int .i64 0, .int .i64 0])).lookN r.id (by omega)
  have d0 := (hx7.below b7).c0
  have d1 := (hx7.below (b8 #[.int .u64 0, .int .u64 0, .bool false, .int .i64 0, .int .i64 0, .int .i64 0])).c0
  rw [hN] at hl3 hl4
  simp only [Option.getD_none, Option.isSome_none, Ent.row, Ent.zero] at hl3 hl4
  have hl3' : (Instr.lookup 64 (.map (some bn)) (.string r.id) true).run Try.prog w7.drew = .ok (.tuple #[.agg #[.int .u64 0, .int .u64 0, .bool false, .int .i64 0, .int .i64 0, .int .i64 0], .bool false]) w7.drew := hl3
  have hl4' : (Instr.lookup 64 (.map (some bn)) (.string r.id) true).run Try.prog (w7.alloc (.cells #[.int .u64 0, .int .u64 0, .bool false, .int .i64 0, .int .i64 0, .int .i64 0] (49 : Nat))).drew = .ok (.tuple #[.agg #[.int .u64 0, .int .u64 0, .bool false, .int .i64 0, .int .i64 0, .int .i64 0], .bool false]) (w7.alloc (.cells #[.int .u64 0, .int .u64 0, .bool false, .int .i64 0, .int .i64 0, .int .i64 0] (49 : Nat))).drew := hl4
  clear hl3 hl4
  have sz1 := alloc_sizeR w (.cells #[.int .u64 (r.lsn : Int), .int .u32 (r.ep : Int), .int .i64 r.kind, .int .u64 (r.ver : Int), .int .u64 (r.dl : Int), .string r.id, .string r.va] (34 : Nat))
  have sz2 := alloc_sizeR (w.alloc (.cells #[.int .u64 (r.lsn : Int), .int .u32 (r.ep : Int), .int .i64 r.kind, .int .u64 (r.ver : Int), .int .u64 (r.dl : Int), .string r.id, .string r.va] (34 : Nat))) (.cells #[.int .i64 p.1, .int .i64 p.2] (36 : Nat))
  have sz3 := alloc_sizeR ((w.alloc (.cells #[.int .u64 (r.lsn : Int), .int .u32 (r.ep : Int), .int .i64 r.kind, .int .u64 (r.ver : Int), .int .u64 (r.dl : Int), .string r.id, .string r.va] (34 : Nat))).alloc (.cells #[.int .i64 p.1, .int .i64 p.2] (36 : Nat))) (.cells #[.string ⟨#[]⟩] (82 : Nat))
  have xR0 : (((w.alloc (.cells #[.int .u64 (r.lsn : Int), .int .u32 (r.ep : Int), .int .i64 r.kind, .int .u64 (r.ver : Int), .int .u64 (r.dl : Int), .string r.id, .string r.va] (34 : Nat))).alloc (.cells #[.int .i64 p.1, .int .i64 p.2] (36 : Nat))).alloc (.cells #[.string ⟨#[]⟩] (82 : Nat))).drew.heap[w.heap.size]? = some (.cells #[.int .u64 (r.lsn : Int), .int .u32 (r.ep : Int), .int .i64 r.kind, .int .u64 (r.ver : Int), .int .u64 (r.dl : Int), .string r.id, .string r.va] (34 : Nat) (0, 0)) := (heap_alloc_old _ _ (by omega)).trans ((heap_alloc_old _ _ (by omega)).trans (heap_alloc_new _ _))
  have yR0 : (((w.alloc (.cells #[.int .u64 (r.lsn : Int), .int .u32 (r.ep : Int), .int .i64 r.kind, .int .u64 (r.ver : Int), .int .u64 (r.dl : Int), .string r.id, .string r.va] (34 : Nat))).alloc (.cells #[.int .i64 p.1, .int .i64 p.2] (36 : Nat))).alloc (.cells #[.string ⟨#[]⟩] (82 : Nat))).drew.heap[w.heap.size + 1]? = some (.cells #[.int .i64 p.1, .int .i64 p.2] (36 : Nat) (0, 0)) := (heap_alloc_old _ _ (by omega)).trans (by rw [← sz1]; exact heap_alloc_new _ _)
  have ne1 : w.heap.size ≠ bn ∧ w.heap.size ≠ bp ∧ w.heap.size + 1 ≠ bn ∧ w.heap.size + 1 ≠ bp := by omega
  have xR1 := hm7.row xR0 ne1.1 ne1.2.1
  have yR1 := hm7.row yR0 ne1.2.2.1 ne1.2.2.2
  have lt0 := lt_of_rowR xR1
  have lt1 := lt_of_rowR yR1
  obtain ⟨W8, hW8⟩ : ∃ W, W = (w7.alloc (.cells #[.int .u64 0, .int .u64 0, .bool false, .int .i64 0, .int .i64 0, .int .i64 0] (49 : Nat))).drew := ⟨_, rfl⟩
  have b78 : Below w7.heap.size w7 W8 := by rw [hW8]; exact b8 _
  have hx8 := hx7.below b78
  have mq8 := mq7.trans (Mq.of_below b78)
  have xR := (b78.block _ lt0).trans xR1
  have yR := (b78.block _ lt1).trans yR1
  have zR : W8.heap[w7.heap.size]? = some (.cells #[.int .u64 0, .int .u64 0, .bool false, .int .i64 0, .int .i64 0, .int .i64 0] (49 : Nat) (0, 0)) := by rw [hW8]; exact heap_alloc_new _ _
  have HX8 := Lib.hid hx8
  have MQ8 := Lib.hid mq8
  have HNN := Lib.hid hn
  have HID := Lib.hid (show r.id.size ≤ 140737488351232 by omega)
  have e0 := cell_regrown hx8.c0
  have HW8 := Lib.hid hW8
  clear hT eQ hnw eB eN hQ h bb0 bb1 hlts hx7 hm7 hz7 mq7 b7 b8 sz1 sz2 sz3 xR0 yR0 ne1 lt0 lt1 b78 hx8 mq8 hW8 hN
  obtain ⟨rl, re, rk, rv, rd, ri, ra⟩ := r
  obtain ⟨p1, p2⟩ := p
  simp only [Rec.ent, Ent.row] at *
  subst hk
  have wa : wrap64 (31 + (ri.size : Int)) = 31 + (ri.size : Int) := IntWalk.wrap64_in _ (by omega)
  have wb : wrap64 (31 + (ri.size : Int) + (ra.size : Int)) = 31 + (ri.size : Int) + (ra.size : Int) := IntWalk.wrap64_in _ (by omega)
  have wc : IntKind.i64.wrap (31 + (ri.size : Int)) = 31 + (ri.size : Int) := IntWalk.i64_in _ (by omega)
  have wd : IntKind.i64.wrap (31 + (ri.size : Int) + (ra.size : Int)) = 31 + (ri.size : Int) + (ra.size : Int) := IntWalk.i64_in _ (by omega)
  have x3' : W8.cell? ⟨w.heap.size, 3, none⟩ = some (.int .u64 (rv : Int)) := (cell_of_row _ _ 3 _ _ _ xR).trans rfl
  have x2 := cell_regrown (show W8.cell? ⟨w.heap.size, 2, none⟩ = some (.int .i64 2) from (cell_of_row _ _ 2 _ _ _ xR).trans rfl)
  have x3 := cell_regrown (show W8.cell? ⟨w.heap.size, 3, none⟩ = some (.int .u64 (rv : Int)) from (cell_of_row _ _ 3 _ _ _ xR).trans rfl)
  have x4 := cell_regrown (show W8.cell? ⟨w.heap.size, 4, none⟩ = some (.int .u64 (rd : Int)) from (cell_of_row _ _ 4 _ _ _ xR).trans rfl)
  have x5 := cell_regrown (show W8.cell? ⟨w.heap.size, 5, none⟩ = some (.string ri) from (cell_of_row _ _ 5 _ _ _ xR).trans rfl)
  have x6 := cell_regrown (show W8.cell? ⟨w.heap.size, 6, none⟩ = some (.string ra) from (cell_of_row _ _ 6 _ _ _ xR).trans rfl)
  have q5 : w7.cell? ⟨w.heap.size, 5, none⟩ = some (.string ri) := (cell_of_row _ _ 5 _ _ _ xR1).trans rfl
  have q5' : (w7.alloc (.cells #[.int .u64 0, .int .u64 0, .bool false, .int .i64 0, .int .i64 0, .int .i64 0] (49 : Nat))).drew.cell? ⟨w.heap.size, 5, none⟩ = some (.string ri) := (((Below.refl w7.heap.size w7).alloc (Nat.le_refl _) (.cells #[.int .u64 0, .int .u64 0, .bool false, .int .i64 0, .int .i64 0, .int .i64 0] (49 : Nat))).cell (p := ⟨w.heap.size, 5, none⟩) (lt_of_cellR q5)).trans q5
  have y0 := cell_regrown (show W8.cell? ⟨w.heap.size + 1, 0, none⟩ = some (.int .i64 p1) from (cell_of_row _ _ 0 _ _ _ yR).trans rfl)
  have y1 := cell_regrown (show W8.cell? ⟨w.heap.size + 1, 1, none⟩ = some (.int .i64 p2) from (cell_of_row _ _ 1 _ _ _ yR).trans rfl)
  clear xR yR zR xR1 yR1
  go_enter Try.func21, Try.ntmps21
  go_wp2_with fail
  go_region
  all_goals
    go_wp2_with fail
    go_region
    all_goals
      go_wp2_with fail
      go_region
      all_goals
        rw [← HW8.out]
        go_wp2_with fail
        refine Loose.wp_region_qtail 23 1 (by kernel_rfl) (by kernel_rfl) (by kernel_rfl) ?_
        simp only [List.append_eq, List.cons_append, List.nil_append, List.take_succ_cons, List.take_zero]
        repeat (go_big_quiet_step (fail))
        refine Loose.finQ_nil ?_
        intro _ hw'
        obtain ⟨⟨dq, osq⟩, hw''⟩ := hw'
        subst hw''
        have bQ := below_regrown W8 dq osq
        obtain ⟨V, hV⟩ : ∃ V, V = Go.Sort.grow (Go.redrawn W8 dq) osq := ⟨_, rfl⟩
        rw [← hV] at bQ
        rw [← hV]
        obtain ⟨w9, hrun9, hx9, hm9, hz9⟩ := (HX8.out.below bQ).storeN HNN.out ri HID.out ⟨rv, rd, false, 31 + (ri.size : Int) + (ra.size : Int), p1, p2⟩
        have H9 := Lib.hid hx9
        have M9 := Lib.hid ((MQ8.out.trans (Mq.of_below bQ)).trans hm9)
        simp only [Ent.row] at hrun9
        clear hx9 hm9 hz9 x2 x3 x4 x5 x6 y0 y1 e0 bQ hV
        go_simp
        refine wpAny_one 23 ?_ rfl ?_
        · kernel_rfl
        intro K hK
        rw [if_pos (by rfl)]
        go_simp
        refine hK _ _ ?_
        clear hK K
        refine wpAny_done (by kernel_rfl) ?_ _
        go_wp2_with fail
        go_ret
        exact ⟨rfl, H9.out, M9.out⟩
set_option maxRecDepth 100000 in
set_option maxHeartbeats 2000000 in
theorem IAdd_lt2 (w : World) (X bn bp n m : Nat) (N : ByteArray → Option Ent) (Q : Plc → Option ByteArray) (r : Rec) (p : Plc) (h : Ix w X bn bp n m N Q) (hn : n < 1000000) (hm : m < 1000000) (hp : kP.ok p) (hi : r.id.size ≤ 1000000) (hv : r.va.size ≤ 1000000) (hQ : Q p = none) (hk : r.kind = 2) (hT : takes Q r p) (s : Ent) (hN : N r.id = some s) (hvv : r.ver < s.ver) :
    Calls Try.prog 21 #[.pointer (some ⟨X, 0, none⟩), .agg #[.int .u64 (r.lsn : Int), .int .u32 (r.ep : Int), .int .i64 r.kind, .int .u64 (r.ver : Int), .int .u64 (r.dl : Int), .string r.id, .string r.va], .agg #[.int .i64 p.1, .int .i64 p.2]] w fun e w' => e = .returned (.bool (addB N Q r p)) ∧ Ix w' X bn bp (n + 1) (m + 1) (addN N Q r p) (addQ Q r p) ∧ Mq bn bp w w' := by
  have hlts := h.lts
  have bb0 : Below w.heap.size w ((w.alloc (.cells #[.int .u64 (r.lsn : Int), .int .u32 (r.ep : Int), .int .i64 r.kind, .int .u64 (r.ver : Int), .int .u64 (r.dl : Int), .string r.id, .string r.va] (34 : Nat))).alloc (.cells #[.int .i64 p.1, .int .i64 p.2] (36 : Nat))).drew := below_drew (((Below.refl _ _).alloc (Nat.le_refl _) _).alloc (by rw [alloc_sizeR]; omega) _)
  have bb1 : ∀ s, Below w.heap.size w (((w.alloc (.cells #[.int .u64 (r.lsn : Int), .int .u32 (r.ep : Int), .int .i64 r.kind, .int .u64 (r.ver : Int), .int .u64 (r.dl : Int), .string r.id, .string r.va] (34 : Nat))).alloc (.cells #[.int .i64 p.1, .int .i64 p.2] (36 : Nat))).alloc (.cells #[.string s] (82 : Nat))).drew := fun s => below_drew ((((Below.refl _ _).alloc (Nat.le_refl _) _).alloc (by rw [alloc_sizeR]; omega) _).alloc (by rw [alloc_sizeR, alloc_sizeR]; omega) _)
  have hl := (h.below bb0).lookP p hp
  have hl2 := (h.below (bb1 ⟨#[]⟩)).lookP p hp
  have c0 := (h.below bb0).c1
  have c1 := (h.below (bb1 ⟨#[]⟩)).c1
  have eQ : addQ Q r p = updM Q p (some r.id) := if_pos hT
  have hnw : ¬ news N r := fun hh => by have := hh s hN; omega
  have eB : addB N Q r p = false := decide_eq_false (fun h => hnw h.2)
  have eN : addN N Q r p = N := if_neg (fun h => hnw h.2)
  rw [eB, eN, eQ]
  rw [hQ] at hl hl2
  simp only [Option.getD_none, Option.isSome_none] at hl hl2
  obtain ⟨w7, hrun, hx7, hm7, hz7⟩ := (h.below (below_drew (bb1 ⟨#[]⟩))).storeP hm p hp r.id
  have mq7 := (Mq.of_below (below_drew (bb1 ⟨#[]⟩))).trans hm7
  have b7 : Below w7.heap.size w7 w7.drew := below_drew (Below.refl _ _)
  have b8 : ∀ cs, Below w7.heap.size w7 (w7.alloc (.cells cs (49 : Nat))).drew := fun cs => below_drew ((Below.refl _ _).alloc (Nat.le_refl _) _)
  have hl3 := (hx7.below b7).lookN r.id (by omega)
  have hl4 := (hx7.below (b8 #[.int .u64 0, .int .u64 0, .bool false, .int .i64 0, .int .i64 0, .int .i64 0])).lookN r.id (by omega)
  have d0 := (hx7.below b7).c0
  have d1 := (hx7.below (b8 #[.int .u64 0, .int .u64 0, .bool false, .int .i64 0, .int .i64 0, .int .i64 0])).c0
  rw [hN] at hl3 hl4
  obtain ⟨a, d, l, u, v, x⟩ := s
  simp only [Option.getD_some, Option.isSome_some, Ent.row] at hl3 hl4 hvv
  have sz1 := alloc_sizeR w (.cells #[.int .u64 (r.lsn : Int), .int .u32 (r.ep : Int), .int .i64 r.kind, .int .u64 (r.ver : Int), .int .u64 (r.dl : Int), .string r.id, .string r.va] (34 : Nat))
  have sz2 := alloc_sizeR (w.alloc (.cells #[.int .u64 (r.lsn : Int), .int .u32 (r.ep : Int), .int .i64 r.kind, .int .u64 (r.ver : Int), .int .u64 (r.dl : Int), .string r.id, .string r.va] (34 : Nat))) (.cells #[.int .i64 p.1, .int .i64 p.2] (36 : Nat))
  have sz3 := alloc_sizeR ((w.alloc (.cells #[.int .u64 (r.lsn : Int), .int .u32 (r.ep : Int), .int .i64 r.kind, .int .u64 (r.ver : Int), .int .u64 (r.dl : Int), .string r.id, .string r.va] (34 : Nat))).alloc (.cells #[.int .i64 p.1, .int .i64 p.2] (36 : Nat))) (.cells #[.string ⟨#[]⟩] (82 : Nat))
  have xR0 : (((w.alloc (.cells #[.int .u64 (r.lsn : Int), .int .u32 (r.ep : Int), .int .i64 r.kind, .int .u64 (r.ver : Int), .int .u64 (r.dl : Int), .string r.id, .string r.va] (34 : Nat))).alloc (.cells #[.int .i64 p.1, .int .i64 p.2] (36 : Nat))).alloc (.cells #[.string ⟨#[]⟩] (82 : Nat))).drew.heap[w.heap.size]? = some (.cells #[.int .u64 (r.lsn : Int), .int .u32 (r.ep : Int), .int .i64 r.kind, .int .u64 (r.ver : Int), .int .u64 (r.dl : Int), .string r.id, .string r.va] (34 : Nat) (0, 0)) := (heap_alloc_old _ _ (by omega)).trans ((heap_alloc_old _ _ (by omega)).trans (heap_alloc_new _ _))
  have yR0 : (((w.alloc (.cells #[.int .u64 (r.lsn : Int), .int .u32 (r.ep : Int), .int .i64 r.kind, .int .u64 (r.ver : Int), .int .u64 (r.dl : Int), .string r.id, .string r.va] (34 : Nat))).alloc (.cells #[.int .i64 p.1, .int .i64 p.2] (36 : Nat))).alloc (.cells #[.string ⟨#[]⟩] (82 : Nat))).drew.heap[w.heap.size + 1]? = some (.cells #[.int .i64 p.1, .int .i64 p.2] (36 : Nat) (0, 0)) := (heap_alloc_old _ _ (by omega)).trans (by rw [← sz1]; exact heap_alloc_new _ _)
  have ne1 : w.heap.size ≠ bn ∧ w.heap.size ≠ bp ∧ w.heap.size + 1 ≠ bn ∧ w.heap.size + 1 ≠ bp := by omega
  have xR1 := hm7.row xR0 ne1.1 ne1.2.1
  have yR1 := hm7.row yR0 ne1.2.2.1 ne1.2.2.2
  have lt0 := lt_of_rowR xR1
  have lt1 := lt_of_rowR yR1
  obtain ⟨W8, hW8⟩ : ∃ W, W = (w7.alloc (.cells #[.int .u64 (a : Int), .int .u64 (d : Int), .bool l, .int .i64 u, .int .i64 v, .int .i64 x] (49 : Nat))).drew := ⟨_, rfl⟩
  have b78 : Below w7.heap.size w7 W8 := by rw [hW8]; exact b8 _
  have hx8 := hx7.below b78
  have mq8 := mq7.trans (Mq.of_below b78)
  have xR := (b78.block _ lt0).trans xR1
  have yR := (b78.block _ lt1).trans yR1
  have zR : W8.heap[w7.heap.size]? = some (.cells #[.int .u64 (a : Int), .int .u64 (d : Int), .bool l, .int .i64 u, .int .i64 v, .int .i64 x] (49 : Nat) (0, 0)) := by rw [hW8]; exact heap_alloc_new _ _
  have H9 := Lib.hid (show Ix W8 X bn bp (n + 1) (m + 1) N (updM Q p (some r.id)) from hx8.mono (Nat.le_succ n) (Nat.le_refl _))
  have M9 := Lib.hid mq8
  have HW8 := Lib.hid hW8
  clear hT eQ hnw eB eN hQ h bb0 bb1 hlts hx7 hm7 hz7 mq7 b7 b8 sz1 sz2 sz3 xR0 yR0 ne1 lt0 lt1 b78 hx8 mq8 hW8 hN
  obtain ⟨rl, re, rk, rv, rd, ri, ra⟩ := r
  obtain ⟨p1, p2⟩ := p
  simp only [Rec.ent, Ent.row] at *
  subst hk
  have v1 : (rv < a) = True := eq_true hvv
  have v2 : ((a : Int) > (rv : Int)) = True := eq_true (by omega)
  clear hvv
  have x3 : W8.cell? ⟨w.heap.size, 3, none⟩ = some (.int .u64 (rv : Int)) := (cell_of_row _ _ 3 _ _ _ xR).trans rfl
  have q5 : w7.cell? ⟨w.heap.size, 5, none⟩ = some (.string ri) := (cell_of_row _ _ 5 _ _ _ xR1).trans rfl
  have q5' : (w7.alloc (.cells #[.int .u64 0, .int .u64 0, .bool false, .int .i64 0, .int .i64 0, .int .i64 0] (49 : Nat))).drew.cell? ⟨w.heap.size, 5, none⟩ = some (.string ri) := (((Below.refl w7.heap.size w7).alloc (Nat.le_refl _) (.cells #[.int .u64 0, .int .u64 0, .bool false, .int .i64 0, .int .i64 0, .int .i64 0] (49 : Nat))).cell (p := ⟨w.heap.size, 5, none⟩) (lt_of_cellR q5)).trans q5
  have z0 : W8.cell? ⟨w7.heap.size, 0, none⟩ = some (.int .u64 (a : Int)) := (cell_of_row _ _ 0 _ _ _ zR).trans rfl
  clear xR yR zR xR1 yR1
  go_enter Try.func21, Try.ntmps21
  go_wp2_with fail
  go_region
  all_goals
    go_wp2_with fail
    go_region
    all_goals
      go_wp2_with fail
      go_region
      all_goals
        rw [← HW8.out]
        go_wp2_with fail
        go_ret
        exact ⟨rfl, H9.out, M9.out⟩
set_option maxRecDepth 100000 in
set_option maxHeartbeats 2000000 in
theorem IAdd_ge2 (w : World) (X bn bp n m : Nat) (N : ByteArray → Option Ent) (Q : Plc → Option ByteArray) (r : Rec) (p : Plc) (h : Ix w X bn bp n m N Q) (hn : n < 1000000) (hm : m < 1000000) (hp : kP.ok p) (hi : r.id.size ≤ 1000000) (hv : r.va.size ≤ 1000000) (hQ : Q p = none) (hk : r.kind = 2) (hT : takes Q r p) (s : Ent) (hN : N r.id = some s) (hvv : ¬ r.ver < s.ver) :
    Calls Try.prog 21 #[.pointer (some ⟨X, 0, none⟩), .agg #[.int .u64 (r.lsn : Int), .int .u32 (r.ep : Int), .int .i64 r.kind, .int .u64 (r.ver : Int), .int .u64 (r.dl : Int), .string r.id, .string r.va], .agg #[.int .i64 p.1, .int .i64 p.2]] w fun e w' => e = .returned (.bool (addB N Q r p)) ∧ Ix w' X bn bp (n + 1) (m + 1) (addN N Q r p) (addQ Q r p) ∧ Mq bn bp w w' := by
  have hlts := h.lts
  have bb0 : Below w.heap.size w ((w.alloc (.cells #[.int .u64 (r.lsn : Int), .int .u32 (r.ep : Int), .int .i64 r.kind, .int .u64 (r.ver : Int), .int .u64 (r.dl : Int), .string r.id, .string r.va] (34 : Nat))).alloc (.cells #[.int .i64 p.1, .int .i64 p.2] (36 : Nat))).drew := below_drew (((Below.refl _ _).alloc (Nat.le_refl _) _).alloc (by rw [alloc_sizeR]; omega) _)
  have bb1 : ∀ s, Below w.heap.size w (((w.alloc (.cells #[.int .u64 (r.lsn : Int), .int .u32 (r.ep : Int), .int .i64 r.kind, .int .u64 (r.ver : Int), .int .u64 (r.dl : Int), .string r.id, .string r.va] (34 : Nat))).alloc (.cells #[.int .i64 p.1, .int .i64 p.2] (36 : Nat))).alloc (.cells #[.string s] (82 : Nat))).drew := fun s => below_drew ((((Below.refl _ _).alloc (Nat.le_refl _) _).alloc (by rw [alloc_sizeR]; omega) _).alloc (by rw [alloc_sizeR, alloc_sizeR]; omega) _)
  have hl := (h.below bb0).lookP p hp
  have hl2 := (h.below (bb1 ⟨#[]⟩)).lookP p hp
  have c0 := (h.below bb0).c1
  have c1 := (h.below (bb1 ⟨#[]⟩)).c1
  have eQ : addQ Q r p = updM Q p (some r.id) := if_pos hT
  have hnw : news N r := fun e he => by rw [hN] at he; rw [← Option.some.inj he]; omega
  have eB : addB N Q r p = true := decide_eq_true ⟨hT, hnw⟩
  have eN : addN N Q r p = updM N r.id (some (r.ent p)) := if_pos ⟨hT, hnw⟩
  rw [eB, eN, eQ]
  rw [hQ] at hl hl2
  simp only [Option.getD_none, Option.isSome_none] at hl hl2
  obtain ⟨w7, hrun, hx7, hm7, hz7⟩ := (h.below (below_drew (bb1 ⟨#[]⟩))).storeP hm p hp r.id
  have mq7 := (Mq.of_below (below_drew (bb1 ⟨#[]⟩))).trans hm7
  have b7 : Below w7.heap.size w7 w7.drew := below_drew (Below.refl _ _)
  have b8 : ∀ cs, Below w7.heap.size w7 (w7.alloc (.cells cs (49 : Nat))).drew := fun cs => below_drew ((Below.refl _ _).alloc (Nat.le_refl _) _)
  have hl3 := (hx7.below b7).lookN r.id (by omega)
  have hl4 := (hx7.below (b8 #[.int .u64 0, .int .u64 0, .bool false, .int .i64 0, .int .i64 0, .int .i64 0])).lookN r.id (by omega)
  have d0 := (hx7.below b7).c0
  have d1 := (hx7.below (b8 #[.int .u64 0, .int .u64 0, .bool false, .int .i64 0, .int .i64 0, .int .i64 0])).c0
  rw [hN] at hl3 hl4
  obtain ⟨a, d, l, u, v, x⟩ := s
  simp only [Option.getD_some, Option.isSome_some, Ent.row] at hl3 hl4 hvv
  have sz1 := alloc_sizeR w (.cells #[.int .u64 (r.lsn : Int), .int .u32 (r.ep : Int), .int .i64 r.kind, .int .u64 (r.ver : Int), .int .u64 (r.dl : Int), .string r.id, .string r.va] (34 : Nat))
  have sz2 := alloc_sizeR (w.alloc (.cells #[.int .u64 (r.lsn : Int), .int .u32 (r.ep : Int), .int .i64 r.kind, .int .u64 (r.ver : Int), .int .u64 (r.dl : Int), .string r.id, .string r.va] (34 : Nat))) (.cells #[.int .i64 p.1, .int .i64 p.2] (36 : Nat))
  have sz3 := alloc_sizeR ((w.alloc (.cells #[.int .u64 (r.lsn : Int), .int .u32 (r.ep : Int), .int .i64 r.kind, .int .u64 (r.ver : Int), .int .u64 (r.dl : Int), .string r.id, .string r.va] (34 : Nat))).alloc (.cells #[.int .i64 p.1, .int .i64 p.2] (36 : Nat))) (.cells #[.string ⟨#[]⟩] (82 : Nat))
  have xR0 : (((w.alloc (.cells #[.int .u64 (r.lsn : Int), .int .u32 (r.ep : Int), .int .i64 r.kind, .int .u64 (r.ver : Int), .int .u64 (r.dl : Int), .string r.id, .string r.va] (34 : Nat))).alloc (.cells #[.int .i64 p.1, .int .i64 p.2] (36 : Nat))).alloc (.cells #[.string ⟨#[]⟩] (82 : Nat))).drew.heap[w.heap.size]? = some (.cells #[.int .u64 (r.lsn : Int), .int .u32 (r.ep : Int), .int .i64 r.kind, .int .u64 (r.ver : Int), .int .u64 (r.dl : Int), .string r.id, .string r.va] (34 : Nat) (0, 0)) := (heap_alloc_old _ _ (by omega)).trans ((heap_alloc_old _ _ (by omega)).trans (heap_alloc_new _ _))
  have yR0 : (((w.alloc (.cells #[.int .u64 (r.lsn : Int), .int .u32 (r.ep : Int), .int .i64 r.kind, .int .u64 (r.ver : Int), .int .u64 (r.dl : Int), .string r.id, .string r.va] (34 : Nat))).alloc (.cells #[.int .i64 p.1, .int .i64 p.2] (36 : Nat))).alloc (.cells #[.string ⟨#[]⟩] (82 : Nat))).drew.heap[w.heap.size + 1]? = some (.cells #[.int .i64 p.1, .int .i64 p.2] (36 : Nat) (0, 0)) := (heap_alloc_old _ _ (by omega)).trans (by rw [← sz1]; exact heap_alloc_new _ _)
  have ne1 : w.heap.size ≠ bn ∧ w.heap.size ≠ bp ∧ w.heap.size + 1 ≠ bn ∧ w.heap.size + 1 ≠ bp := by omega
  have xR1 := hm7.row xR0 ne1.1 ne1.2.1
  have yR1 := hm7.row yR0 ne1.2.2.1 ne1.2.2.2
  have lt0 := lt_of_rowR xR1
  have lt1 := lt_of_rowR yR1
  obtain ⟨W8, hW8⟩ : ∃ W, W = (w7.alloc (.cells #[.int .u64 (a : Int), .int .u64 (d : Int), .bool l, .int .i64 u, .int .i64 v, .int .i64 x] (49 : Nat))).drew := ⟨_, rfl⟩
  have b78 : Below w7.heap.size w7 W8 := by rw [hW8]; exact b8 _
  have hx8 := hx7.below b78
  have mq8 := mq7.trans (Mq.of_below b78)
  have xR := (b78.block _ lt0).trans xR1
  have yR := (b78.block _ lt1).trans yR1
  have zR : W8.heap[w7.heap.size]? = some (.cells #[.int .u64 (a : Int), .int .u64 (d : Int), .bool l, .int .i64 u, .int .i64 v, .int .i64 x] (49 : Nat) (0, 0)) := by rw [hW8]; exact heap_alloc_new _ _
  have HX8 := Lib.hid hx8
  have MQ8 := Lib.hid mq8
  have HNN := Lib.hid hn
  have HID := Lib.hid (show r.id.size ≤ 140737488351232 by omega)
  have e0 := cell_regrown hx8.c0
  have HW8 := Lib.hid hW8
  clear hT eQ hnw eB eN hQ h bb0 bb1 hlts hx7 hm7 hz7 mq7 b7 b8 sz1 sz2 sz3 xR0 yR0 ne1 lt0 lt1 b78 hx8 mq8 hW8 hN
  obtain ⟨rl, re, rk, rv, rd, ri, ra⟩ := r
  obtain ⟨p1, p2⟩ := p
  simp only [Rec.ent, Ent.row] at *
  subst hk
  have wa : wrap64 (31 + (ri.size : Int)) = 31 + (ri.size : Int) := IntWalk.wrap64_in _ (by omega)
  have wb : wrap64 (31 + (ri.size : Int) + (ra.size : Int)) = 31 + (ri.size : Int) + (ra.size : Int) := IntWalk.wrap64_in _ (by omega)
  have wc : IntKind.i64.wrap (31 + (ri.size : Int)) = 31 + (ri.size : Int) := IntWalk.i64_in _ (by omega)
  have wd : IntKind.i64.wrap (31 + (ri.size : Int) + (ra.size : Int)) = 31 + (ri.size : Int) + (ra.size : Int) := IntWalk.i64_in _ (by omega)
  have v1 : (rv < a) = False := eq_false (by omega)
  have v2 : ((a : Int) > (rv : Int)) = False := eq_false (by omega)
  clear hvv
  have x3' : W8.cell? ⟨w.heap.size, 3, none⟩ = some (.int .u64 (rv : Int)) := (cell_of_row _ _ 3 _ _ _ xR).trans rfl
  have x2 := cell_regrown (show W8.cell? ⟨w.heap.size, 2, none⟩ = some (.int .i64 2) from (cell_of_row _ _ 2 _ _ _ xR).trans rfl)
  have x3 := cell_regrown (show W8.cell? ⟨w.heap.size, 3, none⟩ = some (.int .u64 (rv : Int)) from (cell_of_row _ _ 3 _ _ _ xR).trans rfl)
  have x4 := cell_regrown (show W8.cell? ⟨w.heap.size, 4, none⟩ = some (.int .u64 (rd : Int)) from (cell_of_row _ _ 4 _ _ _ xR).trans rfl)
  have x5 := cell_regrown (show W8.cell? ⟨w.heap.size, 5, none⟩ = some (.string ri) from (cell_of_row _ _ 5 _ _ _ xR).trans rfl)
  have x6 := cell_regrown (show W8.cell? ⟨w.heap.size, 6, none⟩ = some (.string ra) from (cell_of_row _ _ 6 _ _ _ xR).trans rfl)
  have q5 : w7.cell? ⟨w.heap.size, 5, none⟩ = some (.string ri) := (cell_of_row _ _ 5 _ _ _ xR1).trans rfl
  have q5' : (w7.alloc (.cells #[.int .u64 0, .int .u64 0, .bool false, .int .i64 0, .int .i64 0, .int .i64 0] (49 : Nat))).drew.cell? ⟨w.heap.size, 5, none⟩ = some (.string ri) := (((Below.refl w7.heap.size w7).alloc (Nat.le_refl _) (.cells #[.int .u64 0, .int .u64 0, .bool false, .int .i64 0, .int .i64 0, .int .i64 0] (49 : Nat))).cell (p := ⟨w.heap.size, 5, none⟩) (lt_of_cellR q5)).trans q5
  have y0 := cell_regrown (show W8.cell? ⟨w.heap.size + 1, 0, none⟩ = some (.int .i64 p1) from (cell_of_row _ _ 0 _ _ _ yR).trans rfl)
  have y1 := cell_regrown (show W8.cell? ⟨w.heap.size + 1, 1, none⟩ = some (.int .i64 p2) from (cell_of_row _ _ 1 _ _ _ yR).trans rfl)
  have z0 : W8.cell? ⟨w7.heap.size, 0, none⟩ = some (.int .u64 (a : Int)) := (cell_of_row _ _ 0 _ _ _ zR).trans rfl
  clear xR yR zR xR1 yR1
  go_enter Try.func21, Try.ntmps21
  go_wp2_with fail
  go_region
  all_goals
    go_wp2_with fail
    go_region
    all_goals
      go_wp2_with fail
      go_region
      all_goals
        rw [← HW8.out]
        go_wp2_with fail
        refine Loose.wp_region_qtail 23 1 (by kernel_rfl) (by kernel_rfl) (by kernel_rfl) ?_
        simp only [List.append_eq, List.cons_append, List.nil_append, List.take_succ_cons, List.take_zero]
        repeat (go_big_quiet_step (fail))
        refine Loose.finQ_nil ?_
        intro _ hw'
        obtain ⟨⟨dq, osq⟩, hw''⟩ := hw'
        subst hw''
        have bQ := below_regrown W8 dq osq
        obtain ⟨V, hV⟩ : ∃ V, V = Go.Sort.grow (Go.redrawn W8 dq) osq := ⟨_, rfl⟩
        rw [← hV] at bQ
        rw [← hV]
        obtain ⟨w9, hrun9, hx9, hm9, hz9⟩ := (HX8.out.below bQ).storeN HNN.out ri HID.out ⟨rv, rd, false, 31 + (ri.size : Int) + (ra.size : Int), p1, p2⟩
        have H9 := Lib.hid hx9
        have M9 := Lib.hid ((MQ8.out.trans (Mq.of_below bQ)).trans hm9)
        simp only [Ent.row] at hrun9
        clear hx9 hm9 hz9 x2 x3 x4 x5 x6 y0 y1 e0 bQ hV
        go_simp
        refine wpAny_one 23 ?_ rfl ?_
        · kernel_rfl
        intro K hK
        rw [if_pos (by rfl)]
        go_simp
        refine hK _ _ ?_
        clear hK K
        refine wpAny_done (by kernel_rfl) ?_ _
        go_wp2_with fail
        go_ret
        exact ⟨rfl, H9.out, M9.out⟩
theorem IAdd_val (w : World) (X bn bp n m : Nat) (N : ByteArray → Option Ent) (Q : Plc → Option ByteArray) (r : Rec) (p : Plc) (h : Ix w X bn bp n m N Q) (hn : n < 1000000) (hm : m < 1000000) (hp : kP.ok p) (hi : r.id.size ≤ 1000000) (hv : r.va.size ≤ 1000000) :
    Calls Try.prog 21 #[.pointer (some ⟨X, 0, none⟩), .agg #[.int .u64 (r.lsn : Int), .int .u32 (r.ep : Int), .int .i64 r.kind, .int .u64 (r.ver : Int), .int .u64 (r.dl : Int), .string r.id, .string r.va], .agg #[.int .i64 p.1, .int .i64 p.2]] w fun e w' => e = .returned (.bool (addB N Q r p)) ∧ Ix w' X bn bp (n + 1) (m + 1) (addN N Q r p) (addQ Q r p) ∧ Mq bn bp w w' := by
  cases hQ : Q p with
  | some s => exact IAdd_taken w X bn bp n m N Q r p h hn hm hp hi hv s hQ
  | none =>
    by_cases hk : r.ok
    · have hT : takes Q r p := ⟨hQ, hk⟩
      rcases hk with hk | hk
      · cases hN : N r.id with
        | none => exact IAdd_none1 w X bn bp n m N Q r p h hn hm hp hi hv hQ hk hT hN
        | some s =>
          by_cases hvv : r.ver < s.ver
          · exact IAdd_lt1 w X bn bp n m N Q r p h hn hm hp hi hv hQ hk hT s hN hvv
          · exact IAdd_ge1 w X bn bp n m N Q r p h hn hm hp hi hv hQ hk hT s hN hvv
      · cases hN : N r.id with
        | none => exact IAdd_none2 w X bn bp n m N Q r p h hn hm hp hi hv hQ hk hT hN
        | some s =>
          by_cases hvv : r.ver < s.ver
          · exact IAdd_lt2 w X bn bp n m N Q r p h hn hm hp hi hv hQ hk hT s hN hvv
          · exact IAdd_ge2 w X bn bp n m N Q r p h hn hm hp hi hv hQ hk hT s hN hvv
    · exact IAdd_bad w X bn bp n m N Q r p h hn hm hp hi hv hQ hk
end Go.Proofs.Ythpompgcnemanaa.G
