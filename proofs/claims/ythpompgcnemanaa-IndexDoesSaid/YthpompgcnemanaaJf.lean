/- Calls of an index that are handed in; what is kept between them. -/
import Derived.Test.YthpompgcnemanaaJe
import Derived.Test.YthpompgcnemanaaIo
import Derived.Test.YthpompgcnemanaaGFast
import Derived.BigQuiet
namespace Go.Proofs.Ythpompgcnemanaa.G
open Go.RowKit Go.Maps Go.Proofs Go.Proofs.Ythpompgcnemanaa.WordPlain Go.Proofs.Ythpompgcnemanaa.Loose
set_option linter.unusedVariables false
set_option linter.unusedSimpArgs false

structure Iop where
  kind : Int
  r : Rec
  p : Plc
abbrev encIo (o : Iop) : List Value := [.int .i64 o.kind, .int .u64 (o.r.lsn : Int), .int .u32 (o.r.ep : Int), .int .i64 o.r.kind, .int .u64 (o.r.ver : Int), .int .u64 (o.r.dl : Int), .string o.r.id, .string o.r.va, .int .i64 o.p.1, .int .i64 o.p.2]
set_option maxRecDepth 100000 in
theorem iop_of_opn {w : World} {n : Nat} {cs : List Value} (h : Row.opn Try.prog w n 38 cs) : ∃ o : Iop, cs = encIo o ∧ kP.ok o.p ∧ (Lit.int .i64 o.kind).wf = true := by
  obtain ⟨hl, hg⟩ := Row.opn_struct h Try.underlying38
  have h10 : cs.length = 10 := hl.trans (by kernel_rfl)
  have ki : Try.prog.cellsOf 3 = 1 := by kernel_rfl
  have kr : Try.prog.cellsOf 34 = 7 := by kernel_rfl
  have kl : Try.prog.cellsOf 36 = 2 := by kernel_rfl
  match cs, h10 with
  | [x0, x1, x2, x3, x4, x5, x6, x7, x8, x9], _ =>
    have g0 : Row.opn Try.prog w (n - 1) 3 [x0] := by
      have h : Row.opn Try.prog w (n - 1) 3 (([x0, x1, x2, x3, x4, x5, x6, x7, x8, x9].drop 0).take (Try.prog.cellsOf 3)) := hg 0 _ rfl
      rw [ki] at h; exact h
    have g1 : Row.opn Try.prog w (n - 1) 34 [x1, x2, x3, x4, x5, x6, x7] := by
      have h : Row.opn Try.prog w (n - 1) 34 (([x0, x1, x2, x3, x4, x5, x6, x7, x8, x9].drop 1).take (Try.prog.cellsOf 34)) := hg 1 _ rfl
      rw [kr] at h; exact h
    have g2 : Row.opn Try.prog w (n - 1) 36 [x8, x9] := by
      have h : Row.opn Try.prog w (n - 1) 36 (([x0, x1, x2, x3, x4, x5, x6, x7, x8, x9].drop 8).take (Try.prog.cellsOf 36)) := hg 2 _ rfl
      rw [kl] at h; exact h
    obtain ⟨z0, e0, w0⟩ := Row.opn_int g0 Try.underlying3
    obtain ⟨r, hr, hk⟩ := rec_of_opn g1
    obtain ⟨p, hp, hkp⟩ := loc_of_opn g2
    cases e0
    refine ⟨⟨z0, r, p⟩, ?_, hkp, w0⟩
    have hr' : [x1, x2, x3, x4, x5, x6, x7] = [.int .u64 (r.lsn : Int), .int .u32 (r.ep : Int), .int .i64 r.kind, .int .u64 (r.ver : Int), .int .u64 (r.dl : Int), .string r.id, .string r.va] := hr
    injection hr' with a1 hr'
    injection hr' with a2 hr'
    injection hr' with a3 hr'
    injection hr' with a4 hr'
    injection hr' with a5 hr'
    injection hr' with a6 hr'
    injection hr' with a7 hr'
    injection hp with b1 hp
    injection hp with b2 hp
    subst a1 a2 a3 a4 a5 a6 a7 b1 b2
    rfl
set_option maxRecDepth 100000 in
theorem iops_of_opn {w : World} {n : Nat} {v : Value} (h : Row.opn Try.prog w n 22 [v]) : ∃ l : List Iop, LR 10 encIo w v l ∧ (∀ o ∈ l, kP.ok o.p ∧ (Lit.int .i64 o.kind).wf = true) ∧ l.length ≤ 140737488351232 := by
  have c1 : Try.prog.cellsOf 38 = 10 := by kernel_rfl
  have b1 : 1 ≤ Try.prog.bytesOf 38 := by rw [show Try.prog.bytesOf 38 = 96 by kernel_rfl]; decide
  rcases Row.opn_slice h Try.underlying22 with hv | ⟨a, len, cap, hv, hle, hby, hel⟩
  · cases hv
    exact ⟨[], LR.nil _ _ _ _ _, by simp, by simp⟩
  · cases hv
    rw [c1] at hel
    have hlen : len ≤ 140737488351232 := Nat.le_trans hle (Nat.le_trans (Nat.le_mul_of_pos_right cap b1) hby)
    by_cases h0 : len = 0
    · subst h0
      exact ⟨[], LR.nil _ _ _ _ _, by simp, by simp⟩
    obtain ⟨blk, off, sp⟩ := a
    have hs : sp = none := by
      obtain ⟨cs', h1, h2⟩ := hel 0 (by omega)
      obtain ⟨o, rfl, _⟩ := iop_of_opn h2
      have h3 := (World.cells?_some h1).2.2 0 (by omega)
      exact spot_of_cellR (h3.trans rfl)
    subst hs
    have key : ∀ i : Fin len, ∃ o : Iop, (kP.ok o.p ∧ (Lit.int .i64 o.kind).wf = true) ∧ ∀ j u, (encIo o)[j]? = some u → w.cell? ⟨blk, off + i.1 * 10 + j, none⟩ = some u := by
      intro i
      obtain ⟨cs', h1, h2⟩ := hel i.1 (Nat.lt_of_lt_of_le i.2 hle)
      obtain ⟨o, rfl, hk⟩ := iop_of_opn h2
      have h3 := (World.cells?_some h1).2.2
      refine ⟨o, hk, fun j u hu => ?_⟩
      have hj : j < 10 := by
        rcases Nat.lt_or_ge j 10 with h | h
        · exact h
        · rw [List.getElem?_eq_none (by simpa using h)] at hu; cases hu
      have := h3 j hj
      rw [add_noneR, add_noneR] at this
      rw [this]; exact hu
    obtain ⟨f, hf⟩ := Classical.axiomOfChoice key
    refine ⟨List.ofFn f, ⟨_, cap, by rw [List.length_ofFn], fun _ => by rw [List.length_ofFn]; exact hle, fun i hi => ⟨blk, off, rfl, fun j u hu => ?_⟩⟩, ?_, by rw [List.length_ofFn]; exact hlen⟩
    · rw [List.length_ofFn] at hi
      rw [List.getElem_ofFn] at hu
      exact (hf ⟨i, hi⟩).2 j u hu
    · intro o ho
      obtain ⟨i, rfl⟩ := List.mem_ofFn.1 ho
      exact (hf i).1
set_option maxRecDepth 100000 in
/-- a list of calls that is handed in -/
theorem open_iops {w : World} {v : Value} (o : Row.Opn Try.prog w 22 v) : ∃ l : List Iop, LR 10 encIo w v l ∧ (∀ o ∈ l, kP.ok o.p ∧ (Lit.int .i64 o.kind).wf = true) ∧ l.length ≤ 140737488351232 := by
  obtain ⟨⟨n, ho⟩, b, hk⟩ := o
  have hv1 : v.cells.toList = [v] := by
    have hc : ∃ u, v.cells.toList = [u] := by
      rcases Row.opn_slice ho Try.underlying22 with hv | ⟨a, len, cap, hv, _⟩ <;> exact ⟨_, hv⟩
    simp only [Value.okWide] at hk
    rw [Try.underlying22] at hk
    cases v <;> first | rfl | (exfalso; simp [Cell.okWide, Try.underlying22, Cell.ok] at hk)
  rw [hv1] at ho
  exact iops_of_opn ho
/-- what is so of an index, whatever is called -/
structure GI (N : ByteArray → Option Ent) (Q : Plc → Option ByteArray) : Prop where
  st : ∀ i e, N i = some e → Q e.at_ = some i ∧ i.size ≤ 80 ∧ 0 ≤ e.sz ∧ e.sz ≤ 4000000
  qs : ∀ p s, Q p = some s → s.size ≤ 80
theorem GI.none : GI (fun _ => none) (fun _ => none) := ⟨(fun i e h => nomatch h), fun p s h => nomatch h⟩
theorem GI.kill {N : ByteArray → Option Ent} {Q : Plc → Option ByteArray} (h : GI N Q) (k : ByteArray) : GI (killN N k) Q := by
  refine ⟨fun i e he => ?_, h.qs⟩
  unfold killN at he
  cases hk : N k with
  | none => rw [hk] at he; exact h.st i e he
  | some s =>
    rw [hk] at he
    simp only at he
    by_cases hl : s.live = true
    · rw [if_pos hl] at he
      by_cases hi : i = k
      · subst hi
        rw [updM_same] at he
        cases he
        exact h.st i s hk
      · rw [updM_other hi] at he
        exact h.st i e he
    · rw [if_neg hl] at he; exact h.st i e he
theorem GI.gone {N : ByteArray → Option Ent} {Q : Plc → Option ByteArray} (h : GI N Q) (sg : Int) : GI (goneN1 N Q sg) (goneQ1 Q sg) := by
  refine ⟨fun i e he => ?_, fun p s hs => ?_⟩
  · have h1 := h.st i e (goneN1_of he)
    have h2 := goneN1_seg (fun i e h' => (h.st i e h').1) he
    refine ⟨?_, h1.2⟩
    unfold goneQ1
    rw [if_neg (show ¬ e.at_.1 = sg from h2)]
    exact h1.1
  · unfold goneQ1 at hs
    split at hs
    · cases hs
    · exact h.qs p s hs
theorem GI.add {N : ByteArray → Option Ent} {Q : Plc → Option ByteArray} (h : GI N Q) (r : Rec) (p : Plc) (hi : r.id.size ≤ 80) (hv : r.va.size ≤ 80) : GI (addN N Q r p) (addQ Q r p) := by
  by_cases hT : takes Q r p
  · have old : ∀ i e, N i = some e → addQ Q r p e.at_ = some i := fun i e he => by
      rw [addQ_yes hT, updM_other]
      · exact (h.st i e he).1
      · intro hh
        have := (h.st i e he).1
        rw [hh, hT.1] at this
        cases this
    refine ⟨fun i e he => ?_, fun q s hs => ?_⟩
    · by_cases hn : news N r
      · rw [addN_yes hT hn] at he
        by_cases hid : i = r.id
        · subst hid
          rw [updM_same] at he
          cases he
          refine ⟨?_, hi, ?_, ?_⟩
          · rw [addQ_yes hT]; exact updM_same _ _ _
          · show 0 ≤ 31 + (r.id.size : Int) + (r.va.size : Int); omega
          · show 31 + (r.id.size : Int) + (r.va.size : Int) ≤ 4000000; omega
        · rw [updM_other hid] at he
          exact ⟨old i e he, (h.st i e he).2⟩
      · rw [addN_no (fun hh => hn hh.2)] at he
        exact ⟨old i e he, (h.st i e he).2⟩
    · rw [addQ_yes hT] at hs
      by_cases hq : q = p
      · subst hq; rw [updM_same] at hs; cases hs; exact hi
      · rw [updM_other hq] at hs; exact h.qs q s hs
  · rw [addN_no (fun hh => hT hh.1), addQ_no hT]; exact h
/-- the ids of those that live, either way -/
theorem NL.keys {N : ByteArray → Option Ent} {L : List (ByteArray × Ent)} (h : NL N L) : KeysL N (L.map (·.1)) := by
  refine ⟨by rw [List.pairwise_map]; exact h.srt, fun k => ?_⟩
  rw [List.mem_map]
  constructor
  · rintro ⟨p, hp, rfl⟩
    rw [(h.en.2 p.1 p.2).1 hp]; rfl
  · intro hk
    cases hn : N k with
    | none => rw [hn] at hk; cases hk
    | some e => exact ⟨(k, e), (h.en.2 k e).2 hn, rfl⟩
theorem filter_map_same {N : ByteArray → Option Ent} : ∀ {L : List (ByteArray × Ent)}, (∀ p ∈ L, N p.1 = some p.2) → (L.map (·.1)).filter (livB N) = livIds L
  | [], _ => rfl
  | p :: L, h => by
    have ih := filter_map_same (L := L) (fun q hq => h q (List.mem_cons_of_mem _ hq))
    have h1 := h p (List.mem_cons_self ..)
    have hb : livB N p.1 = p.2.live := by unfold livB; rw [h1]; rfl
    unfold livIds at ih ⊢
    rw [List.map_cons]
    by_cases hl : p.2.live = true
    · rw [List.filter_cons_of_pos (by rw [hb]; exact hl), ih, List.filter_cons_of_pos (p := fun p : ByteArray × Ent => p.2.live) hl, List.map_cons]
    · rw [List.filter_cons_of_neg (by rw [hb]; exact hl), ih, List.filter_cons_of_neg (p := fun p : ByteArray × Ent => p.2.live) hl]
theorem NL.ids {N : ByteArray → Option Ent} {L : List (ByteArray × Ent)} (h : NL N L) {ks : List ByteArray} (hk : KeysL N ks) : ks.filter (livB N) = livIds L := by
  rw [keysL_uniq hk h.keys]
  exact filter_map_same fun p hp => (h.en.2 p.1 p.2).1 hp
/-- the document's At, over what stands -/
theorem rAt_fun (w : World) (R : Nat) (vS vL : Value) (S : List (Plc × ByteArray)) (L : List (ByteArray × Ent)) (Q : Plc → Option ByteArray) (p1 p2 : Int) (h : RI w R vS vL S L) (hl : S.length ≤ 1000000) (hE : En Q S) :
    Calls Try.prog 28 #[.pointer (some ⟨R, 0, none⟩), .agg #[.int .i64 p1, .int .i64 p2]] w fun e w' => e = .returned (.tuple #[.string ((Q (p1, p2)).getD ⟨#[]⟩), .bool (Q (p1, p2)).isSome]) ∧ Below w.heap.size w w' := by
  refine (rAt_val w R vS vL S L p1 p2 h hl).mono ?_
  rintro e w' ⟨⟨rfl, hno⟩ | ⟨j, hj, rfl, hjp⟩, hb⟩
  · rw [en_at hE hno]; exact ⟨rfl, hb⟩
  · have hq : Q (p1, p2) = some S[j].2 := by rw [← hjp]; exact (hE.2 _ _).1 (List.getElem_mem hj)
    rw [hq]; exact ⟨rfl, hb⟩
set_option maxRecDepth 100000 in
set_option maxHeartbeats 8000000 in
theorem RefE_val (e : Ent) (w : World) : Calls Try.prog 30 #[.agg e.row] w fun e' w' => e' = .returned (.agg e.row) ∧ Below w.heap.size w w' := by
  obtain ⟨a, d, l, u, v, x⟩ := e
  simp only [Ent.row]
  go_enter Try.func30, Try.ntmps30
  go_wp2_with fail
  have h := (two_newR w (.cells #[.int .u64 (a : Int), .int .u64 (d : Int), .bool l, .int .i64 u, .int .i64 v, .int .i64 x] (49 : Nat)) (.cells #[.int .u64 (a : Int), .int .u64 (d : Int), .bool l, .int .i64 u, .int .i64 v, .int .i64 x] (71 : Nat))).2
  have hs := alloc_sizeR w (.cells #[.int .u64 (a : Int), .int .u64 (d : Int), .bool l, .int .i64 u, .int .i64 v, .int .i64 x] (49 : Nat))
  refine bodyPost_ret (v := .agg #[.int .u64 (a : Int), .int .u64 (d : Int), .bool l, .int .i64 u, .int .i64 v, .int .i64 x]) ?_ rfl ⟨rfl, ?_⟩
  · exact results_cell_row (p := 2) (ty := 71) rfl _ _ (w.heap.size + 1) 71 _ (0, 0) _ rfl h Try.underlying71 rfl (by kernel_rfl)
  · exact ((Below.refl _ _).alloc (Nat.le_refl _) _).alloc (by rw [hs]; omega) _
end Go.Proofs.Ythpompgcnemanaa.G
