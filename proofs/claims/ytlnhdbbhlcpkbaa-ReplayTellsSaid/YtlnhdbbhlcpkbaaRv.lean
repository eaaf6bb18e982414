/- The values of a map of records, collected. -/
import Derived.Test.YtlnhdbbhlcpkbaaRm
import Derived.Test.YtlnhdbbhlcpkbaaGRows
import Derived.RangeFuncNested
import Derived.RangeFuncMany
import Derived.RangeFuncLeaves
import Derived.RangeFuncGives
import Derived.RangeFuncBox
import Derived.Shelf.Abstract
import Derived.Sort.MapsRangeIn
import Derived.Sort.KeysCollected
import Derived.Deep.AppendLies
import Derived.Maps.AppendAt
import Derived.WalkKit
import Derived.OwnWalkIn
import Derived.TacticsInMore
import Derived.RegionIn
import Derived.LoopNIn
import Derived.LoopIn
namespace Go.Proofs.Ytlnhdbbhlcpkbaa.G
open Go.RowKit Go.Maps Go.Sort Go.Shelf Go.Proofs
set_option linter.unusedVariables false
set_option linter.unusedSimpArgs false
attribute [local go_sem] Oper.semAt_some

/-- the pair's second is the map's value at its first -/
def ValR (D0 : DataW Unit) (p : List UInt8 × Rec) : Prop := ∀ zd, D0.atKey (.string p.1) zd = cd p.2
/-- all have come -/
def AllR (D0 : DataW Unit) (xs : List Rec) : Prop := ∃ ps : List (List UInt8 × Rec), xs = ps.map (·.2) ∧ (ps.map (·.1)).Perm (strKeys D0) ∧ (∀ x, x ∈ ps.map (·.1) ↔ has D0 (.string x) = true) ∧ ∀ p ∈ ps, ValR D0 p
abbrev encV (r : Rec) : Value := .agg #[.int .u64 r.lsn, .int .u32 r.ep, .int .i64 r.kind, .int .u64 r.ver, .int .u64 r.dl, .string r.id, .string r.va]
theorem encV_row (r : Rec) : encV r = .agg r.row := rfl
theorem bstr (k : List UInt8) : ((⟨k.toArray⟩ : ByteArray).data.toList) = k := by simp

set_option maxRecDepth 100000 in
set_option maxHeartbeats 4000000 in
theorem vals1_in (F : Fence) (n : Nat) (h8 : F.fn 33) (hro : F.round = none) (hn : 1 ≤ n) (l Bm b nn : Nat) (D0 : DataW Unit) (J Jx : List Rec → World → Prop)
    (hY : ∀ pre x W, J pre W → pre.length < Maps.size D0 → YieldAt F (n - 1) Try.prog l #[encV x] W fun e W' =>
      (e = .returned (.bool true) ∧ J (pre ++ [x]) W' ∧ KeepsWalks W W') ∨ (e = .returned (.bool false) ∧ Jx (pre ++ [x]) W'))
    (W : World) (hJ : AbidesFrom W.heap.size J) (hm : W.cell? ⟨Bm, 0, none⟩ = some (.map (some b))) (hown : W.ownsMap Try.prog 9 RS b nn D0) (h0 : J [] W) :
    CallsIn F n Try.prog 33 #[.func (.yield l) #[] #[], .pointer (some ⟨Bm, 0, none⟩)] W fun e W' => (∃ v, e = .returned v) ∧
      ((∃ xs, AllR D0 xs ∧ J xs W') ∨ (∃ pre, True ∧ Jx pre W')) := by
  refine callsIn_of_wp Try.func33 rfl h8 ?_ hro
  simp only [Try.ntmps33, List.size_toArray, List.length_cons, List.length_nil, Nat.reduceAdd, Nat.reduceSub, Array.replicate_succ, Array.replicate_zero, List.push_toArray, List.append_toArray, List.nil_append, List.cons_append]
  gi_wp2_with (first
    | (gi_at_range; refine wpListIn_range_own _ rfl _ 52 rfl 9 42 str_key Try.underlying52 _ b nn _ rfl hown ?_; intro w0 hrg0 hg0 hs0)
    | gi_in)
  go_frame
  gi_loopw [4] (fun _ wr => ∃ (left : Lit → Bool) (cnt : Nat) (ps : List (List UInt8 × Rec)), wr.ranges Try.prog 9 RS b W.heap.size nn D0 left cnt ∧ ps.length + cnt ≤ Maps.size D0 ∧ Collected D0 left (ps.map (·.1)) ∧ (∀ p ∈ ps, ValR D0 p) ∧ J (ps.map (·.2)) wr)
    (fun _ wr => wr.rangeLeft b W.heap.size)
  case atStart =>
    exact ⟨_, _, [], hrg0, by simp, Collected.start D0, by simp, hJ [] W w0 none h0 hg0 (fun r e => by cases e)⟩
  case round =>
    obtain ⟨left, cnt, ps, hrg, hcs, hC, hV, hJs⟩ := hrel
    gi_wp2_with (first
      | (gi_at_next; refine wpListIn_next_ranges _ rfl _ rfl 9 str_key RS (fun k : List UInt8 => Value.string ⟨k.toArray⟩) encV (fun key kl hk => by obtain ⟨x, hx, _⟩ := Maps.keyOf_str Try.underlying9 hk; exact ⟨x, hx⟩) (fun v y hv => by obtain ⟨s, h1, _⟩ := RS_some hv; exact ⟨s, h1⟩) b W.heap.size nn _ _ _ rfl hrg ?_ ?_)
      | gi_in)
    · intro hc0 hl0
      gi_wp2
      go_end0
      exact ⟨⟨_, rfl⟩, .inl ⟨_, ⟨ps, rfl, hC.perm hown str_key Try.underlying9 hl0, fun x => by rw [hC.2 x, hl0]; simp, hV⟩, hJs⟩⟩
    · intro x c kl yd yp w2 cnt2 hkey hlk hv hat hrg2 hlt hg2 hs2 hen
      obtain ⟨x', ex, rfl, _⟩ := Maps.keyOf_str Try.underlying9 hkey
      obtain rfl : x = x' := encStr_inj ex
      obtain ⟨c', ec, ez⟩ := RS_some hv
      obtain rfl : c = c' := cd_inj (by have h := RS_mk c; rw [← encV_row c, hv] at h; rw [ez] at h; injection h with h; injection h with h; exact h.symm)
      obtain rfl : yd = cd c := (Prod.mk.inj ez).1
      have hJ2 : J (ps.map (·.2)) w2 := hJ _ wr w2 (some W.heap.size) hJs hg2 (fun r e => by cases e; exact ⟨Nat.le_refl _, hrg.iter_walk⟩)
      have hJ3 : J (ps.map (·.2)) (w2.alloc (.cells #[.int .u64 c.lsn, .int .u32 c.ep, .int .i64 c.kind, .int .u64 c.ver, .int .u64 c.dl, .string c.id, .string c.va] 42)) := hJ _ w2 _ none hJ2 (World.grownBy_alloc _ _ _) (fun r e => by cases e)
      have n0 := heap_alloc_new w2 (.cells #[.int .u64 c.lsn, .int .u32 c.ep, .int .i64 c.kind, .int .u64 c.ver, .int .u64 c.dl, .string c.id, .string c.va] 42)
      have z0 := (cell_of_row _ _ 0 _ _ _ n0).trans (show _ = some (.int .u64 (c.lsn : Int)) from rfl)
      have z1 := (cell_of_row _ _ 1 _ _ _ n0).trans (show _ = some (.int .u32 (c.ep : Int)) from rfl)
      have z2 := (cell_of_row _ _ 2 _ _ _ n0).trans (show _ = some (.int .i64 c.kind) from rfl)
      have z3 := (cell_of_row _ _ 3 _ _ _ n0).trans (show _ = some (.int .u64 (c.ver : Int)) from rfl)
      have z4 := (cell_of_row _ _ 4 _ _ _ n0).trans (show _ = some (.int .u64 (c.dl : Int)) from rfl)
      have z5 := (cell_of_row _ _ 5 _ _ _ n0).trans (show _ = some (.string c.id) from rfl)
      have z6 := (cell_of_row _ _ 6 _ _ _ n0).trans (show _ = some (.string c.va) from rfl)
      obtain ⟨fn, tmps, assign, body, hy, hR⟩ := hY (ps.map (·.2)) c _ hJ3 (by simp; omega)
      clear hs2 n0 ec hv
      unfold encV at hy hen ⊢
      gi_wp2
      refine hR.mono ?_
      have hC2 : Collected D0 (fun z => left z && !z.sameKey (.string x)) ((ps ++ [(x, c)]).map (·.1)) := by simpa using hC.step hlk hat
      have hV2 : ∀ p ∈ ps ++ [(x, c)], ValR D0 p := fun p hp => (List.mem_append.1 hp).elim (hV p) (fun e => by simp at e; subst e; exact hat)
      rintro e W3 (⟨rfl, hJ4, hk3⟩ | ⟨rfl, hJx3⟩)
      · gi_wp2
        have hrg3 := hrg2.of_walks ((KeepsWalks.alloc _ _).trans hk3)
        go_roundw
        case rel => exact ⟨_, cnt2, ps ++ [(x, c)], hrg3, by simp; omega, hC2, hV2, by simpa using hJ4⟩
        case measure => rw [hrg3.left_eq, hrg.left_eq]; exact hlt
      · gi_wp2
        refine bodyPost_ret (results_none rfl _ _ _) rfl ?_
        exact ⟨⟨_, rfl⟩, .inr ⟨_, trivial, hJx3⟩⟩

theorem vals_in (F : Fence) (n : Nat) (hf : F.fn 24) (hro : F.round = none) (mb : Option Nat) (w : World) :
    CallsIn F n Try.prog 24 #[.map mb] w fun e w' => e = .returned (.func (.func 33) #[] #[.pointer (some ⟨w.heap.size, 0, none⟩)]) ∧ w' = w.alloc (.cells #[.map mb] 52) := by
  refine callsIn_of_wp Try.func24 rfl hf ?_ hro
  simp only [Try.ntmps24, List.size_toArray, List.length_cons, List.length_nil, Nat.reduceAdd, Nat.reduceSub, Array.replicate_succ, Array.replicate_zero, List.push_toArray, List.append_toArray, List.nil_append, List.cons_append]
  gi_wp2
  go_ret
  exact ⟨rfl, rfl⟩
theorem vals_stops (F : Fence) (n : Nat) (hf : F.fn 33) (hro : F.round = none) (hn : 1 ≤ n) (Bm b nn : Nat) (D0 : DataW Unit) (w : World) (hBm : Bm < w.heap.size) (hm : w.cell? ⟨Bm, 0, none⟩ = some (.map (some b))) (hown : w.ownsMap Try.prog 9 RS b nn D0) :
    SeqStopsK F n Try.prog 33 #[.pointer (some ⟨Bm, 0, none⟩)] (fun x : Rec => #[encV x]) KeepsWalks (AllR D0) (fun _ => True) (Maps.size D0) w := fun l J Jx W hW hJ _ hY h0 => by
  have hown' : W.ownsMap Try.prog 9 RS b nn D0 := by
    have hbl := hown.lt
    obtain ⟨es, clock, hb, Ft, hs, hD⟩ := hown
    exact ⟨es, clock, (hW.block b hbl).trans hb, Ft, hs, hD⟩
  exact vals1_in F n hf hro hn l Bm b nn D0 J Jx hY W hJ ((hW.cell (p := ⟨Bm, 0, none⟩) hBm).trans hm) hown' h0
theorem rec_info : ∃ i z, Try.prog.info? 42 = some i ∧ i.zero = some z ∧ i.size = 7 ∧ i.bytes = 72 ∧ z.cells.size = 7 := by
  have h : (Try.prog.info? 42).map (fun i => (i.zero.map (·.cells.size), i.size, i.bytes)) = some (some 7, 7, 72) := by kernel_rfl
  cases hq : Try.prog.info? 42 with
  | none => rw [hq] at h; cases h
  | some i =>
    rw [hq] at h; simp at h
    obtain ⟨⟨z, hz, hz2⟩, h3, h4⟩ := h
    exact ⟨i, z, rfl, hz, h3, h4, hz2⟩
abbrev IC (w : World) (pre : List Rec) (W : World) : Prop := (∃ v, Boxed W w.heap.size 22 v ∧ W.ownsRow w.heap.size 42 7 v pre.length (pre.flatMap encR) ∧ True) ∧ Below w.heap.size w W
set_option maxRecDepth 100000 in
set_option maxHeartbeats 4000000 in
theorem append_in (F : Fence) (n : Nat) (hap : F.fn 37) (hf : F.fn 33) (hro : F.round = none) (hn : 4 ≤ n) (Bm b nn : Nat) (D0 : DataW Unit) (w : World) (hBm : Bm < w.heap.size) (hm : w.cell? ⟨Bm, 0, none⟩ = some (.map (some b))) (hown : w.ownsMap Try.prog 9 RS b nn D0) (hN : Maps.size D0 ≤ 1000000) :
    CallsIn F n Try.prog 37 #[.slice none 0 0, .func (.func 33) #[] #[.pointer (some ⟨Bm, 0, none⟩)]] w fun e w' => (∃ v xs, e = .returned v ∧ AllR D0 xs ∧ w'.ownsRow w.heap.size 42 7 v xs.length (xs.flatMap encR)) ∧ Below w.heap.size w w' := by
  have h1 : 1 ≤ n := by omega
  refine callsIn_of_wp_marks Try.func37 rfl hap ?_ hro
  simp only [Try.ntmps37, List.size_toArray, List.length_cons, List.length_nil, Nat.reduceAdd, Nat.reduceSub, Array.replicate_succ, Array.replicate_zero, List.push_toArray, List.append_toArray, List.nil_append, List.cons_append]
  gi_wp2
  have bB := Boxed.new w 22 (.slice none 0 0)
  have hB0 : Below w.heap.size w (w.alloc (.cells #[.slice none 0 0] 22)) := (Below.refl _ w).alloc (Nat.le_refl _) _
  have hsz : (w.alloc (.cells #[.slice none 0 0] 22)).heap.size = w.heap.size + 1 := by simp
  obtain ⟨W0, hW0⟩ : ∃ W0, w.alloc (.cells #[.slice none 0 0] 22) = W0 := ⟨_, rfl⟩
  rw [hW0] at bB hB0 hsz ⊢
  clear hW0
  have hm0 := (hB0.cell (p := ⟨Bm, 0, none⟩) hBm).trans hm
  have hown0 : W0.ownsMap Try.prog 9 RS b nn D0 := by
    have hbl := hown.lt
    obtain ⟨es, clock, hb, Ft, hs, hD⟩ := hown
    exact ⟨es, clock, (hB0.block b hbl).trans hb, Ft, hs, hD⟩
  refine wpIn_rangeFunc_ownH hro h1 (gf := 33) (lb := #[.pointer (some ⟨Bm, 0, none⟩)]) rfl hf (enters_of Try.func33 (by kernel_rfl) rfl)
    (vals_stops F (n - 1) hf hro (by omega) Bm b nn D0 W0 (by omega) hm0 hown0) walksK_t walksK_b (Below.refl _ _) (fun _ => rfl)
    (IC w) (fun _ _ _ => False)
    (OwnFrom.and (Own.from (holdsRow_own w.heap.size w.heap.size 22 42 7 (fun pre : List Rec => pre.length) (fun pre => pre.flatMap encR) (fun _ _ => True)) _) (ownFrom_below (Nat.le_refl _) (by omega)))
    (fun _ _ _ _ _ hs _ _ => hs)
    ⟨⟨_, bB, World.ownsRow_nil _ _ _ _, trivial⟩, hB0⟩
    (fun x a' W => ∃ Bx, w.heap.size < Bx ∧ W.heap[Bx]? = some (.cells #[.int .u64 x.lsn, .int .u32 x.ep, .int .i64 x.kind, .int .u64 x.ver, .int .u64 x.dl, .string x.id, .string x.va] 42 (0, 0)) ∧ a' = { tmps := #[.slice none 0 0, .func (.func 33) #[] #[.pointer (some ⟨Bm, 0, none⟩)], .pointer (some ⟨w.heap.size, 0, none⟩), undef, .slice none 0 0, .pointer (some ⟨Bx, 0, none⟩), .func (.func 33) #[] #[.pointer (some ⟨Bm, 0, none⟩)], encV x, undef, undef, undef, undef, undef], defers := [] })
    (fun x a' _ X Y row hs hg hr => by
      obtain ⟨Bx, h1, h2, h3⟩ := hs
      exact ⟨Bx, h1, (hg.block Bx (lt_of_rowR h2) (fun e => by obtain ⟨o, ho, hc⟩ := (hr Bx e.symm).2; rw [h2] at ho; cases ho; cases hc)).trans h2, h3⟩)
    ?assign ?body ?done ?stop
  case assign =>
    rintro l pre x W K ⟨⟨v, bS1, hr1, -⟩, hB1⟩ hK
    have n0 := heap_alloc_new W (.cells #[.int .u64 x.lsn, .int .u32 x.ep, .int .i64 x.kind, .int .u64 x.ver, .int .u64 x.dl, .string x.id, .string x.va] 42)
    gi_wp2
    exact hK _ _ ((KeepsOthers.alloc _ _).from _) (KeepsWalks.alloc _ _) ⟨⟨v, bS1.alloc _, hr1.alloc _, trivial⟩, hB1.alloc hB1.size _⟩ ⟨W.heap.size, by have := bS1.lt; omega, n0, rfl⟩
  case body =>
    rintro l pre x a' W hl ⟨r, hr⟩ ⟨⟨v, bS1, hr1, -⟩, hB1⟩ ⟨Bx, hBx, bX, rfl⟩ hlt
    have cS := bS1.cell
    have fS := bS1.frozen
    have z0 := (cell_of_row _ _ 0 _ _ _ bX).trans (show _ = some (.int .u64 (x.lsn : Int)) from rfl)
    have z1 := (cell_of_row _ _ 1 _ _ _ bX).trans (show _ = some (.int .u32 (x.ep : Int)) from rfl)
    have z2 := (cell_of_row _ _ 2 _ _ _ bX).trans (show _ = some (.int .i64 x.kind) from rfl)
    have z3 := (cell_of_row _ _ 3 _ _ _ bX).trans (show _ = some (.int .u64 (x.ver : Int)) from rfl)
    have z4 := (cell_of_row _ _ 4 _ _ _ bX).trans (show _ = some (.int .u64 (x.dl : Int)) from rfl)
    have z5 := (cell_of_row _ _ 5 _ _ _ bX).trans (show _ = some (.string x.id) from rfl)
    have z6 := (cell_of_row _ _ 6 _ _ _ bX).trans (show _ = some (.string x.va) from rfl)
    obtain ⟨i0, zz, hi, hz0, hz1, hz2, hz3⟩ := rec_info
    have hNW := heap_alloc_new W (.cells #[.int .u64 x.lsn, .int .u32 x.ep, .int .i64 x.kind, .int .u64 x.ver, .int .u64 x.dl, .string x.id, .string x.va] 42)
    have hszW := hB1.size
    gi_wp2_with (first
      | (gi_at_builtin; refine wpListIn_append_own _ rfl _ _ 22 rfl w.heap.size 42 i0 zz 7 72 Try.underlying22 hi hz0 hz1 hz2 hz3 (by decide) _ _ _ rfl (hr1.alloc _) ⟨W.heap.size, 0, none⟩ 1 1 (encR x) rfl rfl (World.news_of_block hNW) (by simp [Value.oneCell']) (by simp only [maxLen]; omega) (by omega) (by simp; omega) ?_; intro v' w1 hown' hgrow _; obtain ⟨g', cap', rfl⟩ := ownsRow_succ hown'; obtain ⟨hv1, hv2, hr2, hk2, hb2⟩ := bS1.appended (by decide) hr1 hszW (Nat.le_refl _) hown' hgrow; have hc1 := hv1.cell; have hf1 := hv1.frozen)
      | gi_in)
    exact ⟨hk2.from _, ⟨hk2.size, fun k o ho hw => hk2.same k o ho (Obj.not_cells_of_walk hw)⟩, ⟨_, hv2, by rw [List.length_append, flat_snoc]; exact hr2, trivial⟩, hB1.trans hb2⟩
  case done =>
    rintro D xs W hD hS ⟨⟨v, bS1, hr1, -⟩, hB1⟩ hK
    have cS := bS1.cell
    gi_wp2
    refine ⟨by simp, .inl ⟨_, _, rfl, run_takeDeferred hK, ?_⟩⟩
    exact ⟨_, results_tmp rfl _ _ _, ⟨v, xs, rfl, hS, ownsRow_putObj hr1 _ hK rfl⟩, hB1.trans (belowK_b (w := w) (Nat.le_refl _) W D _ _ (by omega) hK rfl rfl)⟩
  case stop =>
    rintro D c pre W _ _ h _
    exact h.elim
theorem collect_in (F : Fence) (n : Nat) (hco : F.fn 31) (hap : F.fn 37) (hf : F.fn 33) (hro : F.round = none) (hn : 5 ≤ n) (Bm b nn : Nat) (D0 : DataW Unit) (w : World) (hBm : Bm < w.heap.size) (hm : w.cell? ⟨Bm, 0, none⟩ = some (.map (some b))) (hown : w.ownsMap Try.prog 9 RS b nn D0) (hN : Maps.size D0 ≤ 1000000) :
    CallsIn F n Try.prog 31 #[.func (.func 33) #[] #[.pointer (some ⟨Bm, 0, none⟩)]] w fun e w' => (∃ v xs, e = .returned v ∧ AllR D0 xs ∧ w'.ownsRow w.heap.size 42 7 v xs.length (xs.flatMap encR)) ∧ Below w.heap.size w w' := by
  have h1 : 1 ≤ n := by omega
  refine callsIn_of_wp Try.func31 rfl hco ?_ hro
  simp only [Try.ntmps31, List.size_toArray, List.length_cons, List.length_nil, Nat.reduceAdd, Nat.reduceSub, Array.replicate_succ, Array.replicate_zero, List.push_toArray, List.append_toArray, List.nil_append, List.cons_append]
  gi_wp2_with (gi_at_call 37; refine (append_in F (n - 1) hap hf hro (by omega) Bm b nn D0 w hBm hm hown hN).mono ?_; rintro e w' ⟨⟨v, xs, rfl, hS, hrow⟩, hb⟩)
  go_ret
  exact ⟨⟨v, xs, rfl, hS, hrow⟩, hb⟩
theorem Values_val (b : Nat) (w : World) : Calls Try.prog 24 #[.map (some b)] w fun e w' => e = .returned (.func (.func 33) #[] #[.pointer (some ⟨w.heap.size, 0, none⟩)]) ∧ w' = w.alloc (.cells #[.map (some b)] 52) :=
  callsIn_wide.1 (vals_in Fence.wide 5 trivial rfl (some b) w)
theorem Collect_val (Bm b nn : Nat) (D0 : DataW Unit) (w : World) (hBm : Bm < w.heap.size) (hm : w.cell? ⟨Bm, 0, none⟩ = some (.map (some b))) (hown : w.ownsMap Try.prog 9 RS b nn D0) (hN : Maps.size D0 ≤ 1000000) :
    Calls Try.prog 31 #[.func (.func 33) #[] #[.pointer (some ⟨Bm, 0, none⟩)]] w fun e w' => (∃ v xs, e = .returned v ∧ AllR D0 xs ∧ w'.ownsRow w.heap.size 42 7 v xs.length (xs.flatMap encR)) ∧ Below w.heap.size w w' :=
  callsIn_wide.1 (collect_in Fence.wide 5 trivial trivial trivial rfl (by omega) Bm b nn D0 w hBm hm hown hN)
end Go.Proofs.Ytlnhdbbhlcpkbaa.G
