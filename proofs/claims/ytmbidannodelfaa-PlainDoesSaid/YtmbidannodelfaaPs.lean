/- A store behind a pointer: finding, and when a time ends. -/
import Derived.Test.YtmbidannodelfaaPk
import Derived.Test.YtmbidannodelfaaPl
import Derived.Test.YtmbidannodelfaaFu
import Derived.Test.YtmbidannodelfaaGFast
import Derived.Test.YtmbidannodelfaaGTail
import Derived.BigQuiet
import Derived.Deep.WholeRow
import Derived.BigRegion
namespace Go.Proofs.Ytmbidannodelfaa.G
open Go.RowKit Go.Maps Go.Proofs.Ytmbidannodelfaa.WordPlain Go.Proofs.Ytmbidannodelfaa.Loose
set_option linter.unusedVariables false
set_option linter.unusedSimpArgs false

/-- the store's block, and its map's -/
structure PL (w : World) (p b n : Nat) (now : Nat) (q : Int) (f : ByteArray → Option Ses) : Prop where
  cells : w.heap[p]? = some (.cells #[.int .u64 (now : Int), .int .i64 q, .map (some b)] 67 (0, 0))
  map : MapIs w b n f
  ids : ∀ k s, f k = some s → s.id = k ∧ k.size ≤ 140737488351232
  nlt : now < 18446744073709551616
theorem PL.ne {w : World} {p b n now : Nat} {q : Int} {f : ByteArray → Option Ses} (h : PL w p b n now q f) : p ≠ b := by
  rintro rfl
  obtain ⟨D, ⟨es, c, hb, _⟩, _⟩ := h.map
  rw [h.cells] at hb; cases hb
theorem PL.below {w w' : World} {p b n now : Nat} {q : Int} {f : ByteArray → Option Ses} (h : PL w p b n now q f) (hb : Below w.heap.size w w') : PL w' p b n now q f :=
  ⟨(hb.block p (lt_of_rowR h.cells)).trans h.cells, h.map.below hb, h.ids, h.nlt⟩
/-- does one live? -/
def liv (now : Nat) (f : ByteArray → Option Ses) (k : ByteArray) : Bool := match f k with | some s => decide (now < s.dl) | none => false

theorem fresults (tmps : Array Value) (A : Nat) (a0 a1 a2 z : Value) (W : World) (h4 : tmps[4]? = some (.pointer (some ⟨A, 0, none⟩))) (h5 : tmps[5]? = some z)
    (hc : W.heap[A]? = some (.cells #[a0, a1, a2] 70 (0, 0))) :
    (results Try.f29 tmps).run Try.prog W = .ok (.tuple #[.agg #[a0, a1, a2], z]) W := by
  have c0 := (cell_of_row _ _ 0 _ _ _ hc).trans (show _ = some a0 from rfl)
  have c1 := (cell_of_row _ _ 1 _ _ _ hc).trans (show _ = some a1 from rfl)
  have c2 := (cell_of_row _ _ 2 _ _ _ hc).trans (show _ = some a2 from rfl)
  simp [results, Try.results29, go_sem, h4, h5, c0, c1, c2]
theorem below_drew {B : Nat} {w W : World} (h : Below B w W) : Below B w W.drew := ⟨h.os, h.tape, h.output, h.size, h.block⟩
theorem two_newP (w : World) (o o' : Obj) : ((w.alloc o).alloc o').heap[w.heap.size]? = some o ∧ ((w.alloc o).alloc o').heap[w.heap.size + 1]? = some o' := by
  have s := alloc_sizeR w o
  have h1 := heap_alloc_new w o
  have h2 := heap_alloc_new (w.alloc o) o'
  rw [s] at h2
  refine ⟨?_, h2⟩
  have hb : Below (w.alloc o).heap.size (w.alloc o) ((w.alloc o).alloc o') := (Below.refl _ _).alloc (Nat.le_refl _) _
  rw [hb.block _ (by omega)]
  exact h1
set_option maxRecDepth 100000 in
set_option maxHeartbeats 4000000 in
theorem find_val (w : World) (p b n now : Nat) (q : Int) (f : ByteArray → Option Ses) (k : ByteArray) (h : PL w p b n now q f) (hk : k.size ≤ 140737488351232) :
    Calls Try.prog 29 #[.pointer (some ⟨p, 0, none⟩), .string k] w fun e w' => e = .returned (.tuple #[.agg ((f k).getD Ses.zero).row, .bool (liv now f k)]) ∧ Below w.heap.size w w' := by
  have hc : ∀ W, Below w.heap.size w W → W.cell? ⟨p, 0, none⟩ = some (.int .u64 (now : Int)) ∧ W.cell? ⟨p, 2, none⟩ = some (.map (some b)) := fun W hb =>
    ⟨(cell_of_row _ _ 0 _ _ _ (h.below hb).cells).trans rfl, (cell_of_row _ _ 2 _ _ _ (h.below hb).cells).trans rfl⟩
  have hl : ∀ W, Below w.heap.size w W → _ := fun W hb => (h.below hb).map.look k hk
  obtain ⟨s, hs⟩ : ∃ s, s = (f k).getD Ses.zero := ⟨_, rfl⟩
  obtain ⟨z, hz⟩ : ∃ z, z = (f k).isSome := ⟨_, rfl⟩
  have hL : liv now f k = (z && decide (now < s.dl)) := by
    rw [hz, hs]; unfold liv
    cases f k <;> rfl
  rw [hL]
  simp only [← hs, ← hz] at hl ⊢
  clear hs hz hL
  have HC := Lib.hid hc
  have HL := Lib.hid hl
  clear hc hl
  obtain ⟨si, sv, sd⟩ := s
  simp only [Ses.row] at HL ⊢
  have hs0 := alloc_sizeR w (.cells #[.string ⟨#[]⟩, .string ⟨#[]⟩, .int .u64 0] 70)
  have b1 := (Below.refl w.heap.size w).alloc (Nat.le_refl _) (.cells #[.string ⟨#[]⟩, .string ⟨#[]⟩, .int .u64 0] 70)
  have c1 := (HC.out _ b1).2
  have l1 := HL.out _ b1
  go_enter Try.func29, Try.ntmps29
  go_wp2_with fail
  have hsz0 := alloc_sizeR w (.cells #[.string si, .string sv, .int .u64 (sd : Int)] 70)
  have c2 := (HC.out _ (b1.alloc (by omega) (.cells #[.string si, .string sv, .int .u64 (sd : Int)] 70))).1
  have b3 := (Below.refl w.heap.size w).alloc (Nat.le_refl _) (.cells #[.string si, .string sv, .int .u64 (sd : Int)] 70)
  have b4 := b3.alloc (by omega) (.cells #[.string si, .string sv, .int .u64 (sd : Int)] 70)
  have c3 := (HC.out _ b4).1
  have hn4 := (two_newP w (.cells #[.string si, .string sv, .int .u64 (sd : Int)] 70) (.cells #[.string si, .string sv, .int .u64 (sd : Int)] 70)).1
  have HN4 := Lib.hid hn4
  have B4 := Lib.hid (below_drew b4)
  clear hn4 b4
  cases z
  · go_region
    all_goals
      go_wp2_with fail
      refine bodyPost_ret (fresults _ w.heap.size _ _ _ _ _ rfl rfl HN4.out) rfl ⟨rfl, B4.out⟩
  · go_region
    all_goals
      go_wp2_with fail
      refine bodyPost_ret (fresults _ w.heap.size _ _ _ _ _ rfl rfl HN4.out) rfl ⟨?_, B4.out⟩
      show Ending.returned (.tuple #[_, .bool (decide (now < sd))]) = _
      rw [Bool.true_and]
theorem tickV_lt (x : Nat) : F.tickV x < 18446744073709551616 := by
  unfold F.tickV
  split
  · split
    · decide
    · exact F.fl_big (by omega)
  · decide
theorem addV_lt (a b : Nat) (ha : a < 18446744073709551616) (hb : b < 18446744073709551616) : addV a b < 18446744073709551616 := by unfold addV; split <;> omega
/-- when a request's time ends -/
def ddl (now : Nat) (r : Rq) : Nat := addV now (F.tickV r.ttl)
set_option maxRecDepth 100000 in
set_option maxHeartbeats 4000000 in
theorem dead_val (w : World) (p b n now : Nat) (q : Int) (f : ByteArray → Option Ses) (r : Rq) (h : PL w p b n now q f) (hr : r.Kind) :
    Calls Try.prog 49 #[.pointer (some ⟨p, 0, none⟩), .agg r.row] w fun e w' => e = .returned (.int .u64 (ddl now r : Nat)) ∧ Below w.heap.size w w' := by
  have hc : ∀ W, Below w.heap.size w W → W.cell? ⟨p, 0, none⟩ = some (.int .u64 (now : Int)) := fun W hb => (cell_of_row _ _ 0 _ _ _ (h.below hb).cells).trans rfl
  have ht := fun W => Ticks_val r.ttl W hr.ttl
  have hl := fun W => Later_val now (F.tickV r.ttl) (ddl now r) W h.nlt (tickV_lt r.ttl) (Lib.hid rfl)
  obtain ⟨k, i, v, x⟩ := r
  simp only [Rq.row] at ht hl ⊢
  obtain ⟨d, hd⟩ : ∃ d, d = ddl now ⟨k, i, v, x⟩ := ⟨_, rfl⟩
  rw [← hd] at hl ⊢
  obtain ⟨tv, htv⟩ : ∃ d, d = F.tickV x := ⟨_, rfl⟩
  rw [← htv] at ht hl
  have b1 := (Below.refl w.heap.size w).alloc (Nat.le_refl _) (.cells #[.int .i64 k, .string i, .string v, .float .f64 x] 32)
  have c1 := hc _ b1
  have HT := Lib.hid ht
  have HL := Lib.hid hl
  clear hc ht hl hd htv h hr
  go_enter Try.func49, Try.ntmps49
  go_wp2_with fail
  refine (HT.out _).mono ?_; rintro e w1 ⟨rfl, rfl⟩
  go_wp2_with fail
  refine (HL.out _).mono ?_; rintro e w1 ⟨rfl, rfl⟩
  go_wp2_with fail
  go_ret
  exact ⟨rfl, b1⟩

abbrev encS (s : Ses) : List Value := [.string s.id, .string s.va, .int .u64 (s.dl : Int)]
/-- those that live, in the keys' order -/
def livL (now : Nat) (f : ByteArray → Option Ses) (ks : List ByteArray) : List Ses := ks.filterMap fun k => if liv now f k then f k else none
theorem livL_snoc (now : Nat) (f : ByteArray → Option Ses) (ks : List ByteArray) (k : ByteArray) : livL now f (ks ++ [k]) = livL now f ks ++ (if liv now f k then [(f k).getD Ses.zero] else []) := by
  unfold livL
  rw [List.filterMap_append]
  congr 1
  unfold liv
  cases hf : f k with
  | none => simp [hf]
  | some s => by_cases h : now < s.dl <;> simp [hf, h]
theorem ses_info : ∃ i z, Try.prog.info? 70 = some i ∧ i.zero = some z ∧ i.size = 3 ∧ i.bytes = 40 ∧ z.cells.size = 3 := by
  have h : (Try.prog.info? 70).map (fun i => (i.zero.map (·.cells.size), i.size, i.bytes)) = some (some 3, 3, 40) := by kernel_rfl
  cases hq : Try.prog.info? 70 with
  | none => rw [hq] at h; cases h
  | some i =>
    rw [hq] at h; simp at h
    obtain ⟨⟨z, hz, hz2⟩, h3, h4⟩ := h
    exact ⟨i, z, rfl, hz, h3, h4, hz2⟩
end Go.Proofs.Ytmbidannodelfaa.G
