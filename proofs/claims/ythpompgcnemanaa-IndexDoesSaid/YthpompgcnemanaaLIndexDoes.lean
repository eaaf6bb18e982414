/- IndexDoes: whatever is handed in, the law answers true. No condition. -/
import Derived.Test.YthpompgcnemanaaIo
import Derived.Test.YthpompgcnemanaaGFast
import Derived.BigQuiet
import Derived.Test.YthpompgcnemanaaJh
import Derived.Test.YthpompgcnemanaaJi
namespace Go.Proofs.Ythpompgcnemanaa.L
open Go.RowKit Go.Maps Go.Proofs.Ythpompgcnemanaa.G Go.Proofs.Ythpompgcnemanaa.WordPlain Go.Proofs.Ythpompgcnemanaa.Loose
set_option linter.unusedVariables false
set_option linter.unusedSimpArgs false

set_option maxRecDepth 100000 in
set_option maxHeartbeats 16000000 in
theorem do_val (w : World) (X bn bp R k B : Nat) (N : ByteArray → Option Ent) (Q : Plc → Option ByteArray) (o : Iop) (hd : DX w X bn bp R k N Q) (hlt : X < R ∧ bn < R ∧ bp < R) (hk : k ≤ 60) (hp : kP.ok o.p) (hB : B ≤ bn ∧ B ≤ bp ∧ B ≤ w.heap.size) :
    Calls Try.prog 10 #[.pointer (some ⟨X, 0, none⟩), .pointer (some ⟨R, 0, none⟩), .agg #[.int .i64 o.kind, .int .u64 (o.r.lsn : Int), .int .u32 (o.r.ep : Int), .int .i64 o.r.kind, .int .u64 (o.r.ver : Int), .int .u64 (o.r.dl : Int), .string o.r.id, .string o.r.va, .int .i64 o.p.1, .int .i64 o.p.2]] w fun e w' => e = .returned (.int .i64 1) ∧ (∃ N' Q', DX w' X bn bp R (k + 1) N' Q') ∧ Below B w w' := by
  cases h0 : (bits BinOp.and IntKind.i64 o.kind 7 == 0) with
  | true => exact do_kill w X bn bp R k B N Q o hd hlt hk hp hB h0
  | false =>
    cases h1 : (bits BinOp.and IntKind.i64 o.kind 7 == 1) with
    | true => exact do_gone w X bn bp R k B N Q o hd hlt hk hp hB h0 h1
    | false => exact do_add w X bn bp R k B N Q o hd hlt hk hp hB h0 h1
set_option maxRecDepth 100000 in
set_option maxHeartbeats 16000000 in
theorem does_main (l : List Iop) (v : Value) (w : World) (h : LR 10 encIo w v l) (hl : l.length ≤ 140737488351232) (hk : ∀ o ∈ l, kP.ok o.p) :
    Calls Try.prog 3 #[v] w fun e w' => e = .returned (.bool true) ∧ Below w.heap.size w w' := by
  obtain ⟨oa, cap, rfl, _, hx⟩ := h
  obtain ⟨n, hn⟩ : ∃ n, n = l.length := ⟨_, rfl⟩
  rw [← hn] at hl ⊢
  have HX := Lib.hid hx
  have HN := Lib.hid hn
  have HK := Lib.hid hk
  clear hx hn hk
  go_enter Try.func3, Try.ntmps3
  go_wp2_with fail
  refine (INew_val w).mono ?_; rintro e w1 ⟨⟨X, bn, bp, rfl, hix, hX, hbn, hbp⟩, hb⟩
  obtain ⟨w2, hw2⟩ : ∃ W, W = w1.alloc (.cells #[.slice none 0 0, .slice none 0 0] (29 : Nat)) := ⟨_, rfl⟩
  have b12 : Below w1.heap.size w1 w2 := by rw [hw2]; exact (Below.refl _ _).alloc (Nat.le_refl _) _
  have row2 : w2.heap[w1.heap.size]? = some (.cells #[.slice none 0 0, .slice none 0 0] 29 (0, 0)) := by rw [hw2]; exact heap_alloc_new _ _
  obtain ⟨R, hR⟩ : ∃ R, R = w1.heap.size := ⟨_, rfl⟩
  rw [← hR] at row2
  have D2 : Hid (DX w2 X bn bp R 0 (fun _ => none) (fun _ => none)) := Lib.hid ⟨hix.below b12, ⟨_, _, [], [], ⟨row2, own_nil _ _ _ _ _, own_nil _ _ _ _ _, fun k hk => by cases hk⟩, ⟨En.nil, List.Pairwise.nil⟩, En.nil, Nat.le_refl _, Nat.le_refl _⟩, GI.none⟩
  have LT := Lib.hid (show X < R ∧ bn < R ∧ bp < R by rw [hR]; exact hix.lts)
  have LB := Lib.hid (show w.heap.size ≤ bn ∧ w.heap.size ≤ bp from ⟨hbn, hbp⟩)
  have BB2 := Lib.hid (stepR hb b12)
  have HW2 := Lib.hid hw2
  have HRR := Lib.hid hR
  clear hix hX hbn hbp hb hw2 b12 row2 hR
  go_wp2_with fail
  try rw [← HW2.out]
  try rw [← HRR.out]
  go_loopw [5] (fun i wi => ∃ (q : Nat) (N : ByteArray → Option Ent) (Q : Plc → Option ByteArray), q ≤ n ∧ q ≤ 60 ∧ i = .int .i64 q ∧ DX wi X bn bp R q N Q ∧ Below w.heap.size w wi) (fun i _ => 60 - (intOf i).toNat)
  case atStart => exact ⟨0, _, _, by omega, by omega, rfl, D2.out, BB2.out⟩
  case round =>
    obtain ⟨q, N, Q, hq, hq60, rfl, hd, hbl⟩ := hrel
    have DD := Lib.hid hd
    have BB := Lib.hid hbl
    clear hd hbl
    by_cases hlt : q < n
    · have hkn : (q : Int) < (n : Int) := by omega
      by_cases h60 : q < 60
      · have hk60 : (q : Int) < 60 := by omega
        have hql : q < l.length := by have := HN.out; omega
        obtain ⟨b, off, hoa, hc⟩ := HX.out q hql
        have hok := HK.out _ (List.getElem_mem hql)
        obtain ⟨o, ho⟩ : ∃ o, o = l[q] := ⟨_, rfl⟩
        rw [← ho] at hc hok
        have a0 : wr.cell? ⟨b, off + q * 10, none⟩ = some (.int .i64 o.kind) := (BB.out.cell (p := ⟨b, off + q * 10, none⟩) (lt_of_cellR (hc 0 _ rfl))).trans (hc 0 _ rfl)
        have a1 : wr.cell? ⟨b, off + q * 10 + 1, none⟩ = some (.int .u64 (o.r.lsn : Int)) := (BB.out.cell (p := ⟨b, off + q * 10 + 1, none⟩) (lt_of_cellR (hc 1 _ rfl))).trans (hc 1 _ rfl)
        have a2 : wr.cell? ⟨b, off + q * 10 + 2, none⟩ = some (.int .u32 (o.r.ep : Int)) := (BB.out.cell (p := ⟨b, off + q * 10 + 2, none⟩) (lt_of_cellR (hc 2 _ rfl))).trans (hc 2 _ rfl)
        have a3 : wr.cell? ⟨b, off + q * 10 + 3, none⟩ = some (.int .i64 o.r.kind) := (BB.out.cell (p := ⟨b, off + q * 10 + 3, none⟩) (lt_of_cellR (hc 3 _ rfl))).trans (hc 3 _ rfl)
        have a4 : wr.cell? ⟨b, off + q * 10 + 4, none⟩ = some (.int .u64 (o.r.ver : Int)) := (BB.out.cell (p := ⟨b, off + q * 10 + 4, none⟩) (lt_of_cellR (hc 4 _ rfl))).trans (hc 4 _ rfl)
        have a5 : wr.cell? ⟨b, off + q * 10 + 5, none⟩ = some (.int .u64 (o.r.dl : Int)) := (BB.out.cell (p := ⟨b, off + q * 10 + 5, none⟩) (lt_of_cellR (hc 5 _ rfl))).trans (hc 5 _ rfl)
        have a6 : wr.cell? ⟨b, off + q * 10 + 6, none⟩ = some (.string o.r.id) := (BB.out.cell (p := ⟨b, off + q * 10 + 6, none⟩) (lt_of_cellR (hc 6 _ rfl))).trans (hc 6 _ rfl)
        have a7 : wr.cell? ⟨b, off + q * 10 + 7, none⟩ = some (.string o.r.va) := (BB.out.cell (p := ⟨b, off + q * 10 + 7, none⟩) (lt_of_cellR (hc 7 _ rfl))).trans (hc 7 _ rfl)
        have a8 : wr.cell? ⟨b, off + q * 10 + 8, none⟩ = some (.int .i64 o.p.1) := (BB.out.cell (p := ⟨b, off + q * 10 + 8, none⟩) (lt_of_cellR (hc 8 _ rfl))).trans (hc 8 _ rfl)
        have a9 : wr.cell? ⟨b, off + q * 10 + 9, none⟩ = some (.int .i64 o.p.2) := (BB.out.cell (p := ⟨b, off + q * 10 + 9, none⟩) (lt_of_cellR (hc 9 _ rfl))).trans (hc 9 _ rfl)
        have DV := Lib.hid (do_val wr X bn bp R q w.heap.size N Q o DD.out LT.out (by omega) hok ⟨LB.out.1, LB.out.2, BB.out.size⟩)
        have WJ := Lib.hid (wrI q (by omega))
        subst hoa
        clear hc hok ho
        go_wp2_with fail
        refine DV.out.mono ?_; rintro e w5 ⟨rfl, ⟨N', Q', hd⟩, hb⟩
        have D5 := Lib.hid hd
        have B5 := Lib.hid (BB.out.trans hb)
        clear hd hb DV a0 a1 a2 a3 a4 a5 a6 a7 a8 a9
        go_wp2_with fail
        go_roundw
        case rel => exact ⟨q + 1, N', Q', by omega, by omega, by first | rfl | (rw [WJ.out]), D5.out, B5.out⟩
        case measure => (try rw [WJ.out]); simp only [intOf, Int.toNat_natCast]; omega
      · have hk60 : ¬ (q : Int) < 60 := by omega
        go_wp2_with fail
        refine (fixed_val wr).mono ?_; rintro e wz ⟨rfl, hb⟩
        go_wp2_with fail
        go_ret
        exact ⟨rfl, stepR BB.out hb⟩
    · have hkn : ¬ (q : Int) < (n : Int) := by omega
      go_wp2_with fail
      refine (fixed_val wr).mono ?_; rintro e wz ⟨rfl, hb⟩
      go_wp2_with fail
      go_ret
      exact ⟨rfl, stepR BB.out hb⟩
theorem IndexDoes_walk (v0 : Value) (w : World) (o0 : Row.Opn Try.prog w 22 v0) :
    Calls Try.prog 3 #[v0] w fun e w' => e = .returned (.bool true) ∧ Below w.heap.size w w' := by
  obtain ⟨l, h1, h2, h3⟩ := open_iops o0
  exact does_main l v0 w h1 h3 (fun o ho => (h2 o ho).1)
end Go.Proofs.Ythpompgcnemanaa.L
