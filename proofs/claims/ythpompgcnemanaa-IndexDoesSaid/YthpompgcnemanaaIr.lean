/- Records; Cut, Ref of a record. -/
import Derived.Test.YthpompgcnemanaaGMisc
import Derived.Test.YthpompgcnemanaaGWordm
import Derived.Test.YthpompgcnemanaaGRows
import Derived.Deep.WholeRow
import Derived.Lib.Hide
import Derived.BigRegion
import Derived.Below
import Derived.Maps.OwnSet
namespace Go.Proofs.Ythpompgcnemanaa.G
open Go.RowKit Go.Maps Go.Proofs.Ythpompgcnemanaa.WordPlain
set_option linter.unusedVariables false
set_option linter.unusedSimpArgs false

structure Rec where
  lsn : Nat
  ep : Nat
  kind : Int
  ver : Nat
  dl : Nat
  id : ByteArray
  va : ByteArray
  deriving DecidableEq
def Rec.row (s : Rec) : Array Value := #[.int .u64 s.lsn, .int .u32 s.ep, .int .i64 s.kind, .int .u64 s.ver, .int .u64 s.dl, .string s.id, .string s.va]
abbrev encR (s : Rec) : List Value := [.int .u64 s.lsn, .int .u32 s.ep, .int .i64 s.kind, .int .u64 s.ver, .int .u64 s.dl, .string s.id, .string s.va]
def Rec.zero : Rec := ⟨0, 0, 0, 0, 0, ⟨#[]⟩, ⟨#[]⟩⟩
structure Rec.Kind (s : Rec) : Prop where
  lsn : s.lsn < 18446744073709551616
  ep : s.ep < 4294967296
  kind : -9223372036854775808 ≤ s.kind ∧ s.kind < 9223372036854775808
  ver : s.ver < 18446744073709551616
  dl : s.dl < 18446744073709551616
  id : s.id.size ≤ 140737488351232
  va : s.va.size ≤ 140737488351232
abbrev bl8 (k : ByteArray) : List UInt8 := k.data.toList
theorem bl8_inj {a b : ByteArray} (h : bl8 a = bl8 b) : a = b := ByteArray.ext (Array.toList_inj.1 h)
theorem run_min2R {P : Program} (ats : Array TypeId) (ty : TypeId) (a b : Int) (W : World) : (Builtin.min_ ats ty #[.int .i64 a, .int .i64 b]).run P W = .ok (.int .i64 (min a b)) W := by
  have h : ∀ x y : Int, (if y < x then y else x) = min x y := by intro x y; split <;> omega
  simp [Builtin.min_, Builtin.min2, List.foldlM_cons, List.foldlM_nil, h]
theorem two_newR (w : World) (o o' : Obj) : ((w.alloc o).alloc o').heap[w.heap.size]? = some o ∧ ((w.alloc o).alloc o').heap[w.heap.size + 1]? = some o' := by
  have s := alloc_sizeR w o
  have h1 := heap_alloc_new w o
  have h2 := heap_alloc_new (w.alloc o) o'
  rw [s] at h2
  refine ⟨?_, h2⟩
  have hb : Below (w.alloc o).heap.size (w.alloc o) ((w.alloc o).alloc o') := (Below.refl _ _).alloc (Nat.le_refl _) _
  rw [hb.block _ (by omega)]
  exact h1
def Rec.cut (r : Rec) : Rec := { r with id := r.id.extract 0 (min r.id.size 80), va := r.va.extract 0 (min r.va.size 80) }
theorem Rec.Kind.cut {r : Rec} (h : r.Kind) : r.cut.Kind :=
  ⟨h.lsn, h.ep, h.kind, h.ver, h.dl, by show (r.id.extract 0 _).size ≤ _; rw [ByteArray.size_extract]; omega, by show (r.va.extract 0 _).size ≤ _; rw [ByteArray.size_extract]; omega⟩
set_option maxRecDepth 100000 in
theorem CutR_form (r : Rec) (ki kv : Nat) (w : World) (hki : ki = min r.id.size 80) (hkv : kv = min r.va.size 80) :
    Calls Try.prog 19 #[.agg #[.int .u64 (r.lsn : Int), .int .u32 (r.ep : Int), .int .i64 r.kind, .int .u64 (r.ver : Int), .int .u64 (r.dl : Int), .string r.id, .string r.va]] w fun e w' => e = .returned (.agg #[.int .u64 (r.lsn : Int), .int .u32 (r.ep : Int), .int .i64 r.kind, .int .u64 (r.ver : Int), .int .u64 (r.dl : Int), .string (r.id.extract 0 ki), .string (r.va.extract 0 kv)]) ∧ Below w.heap.size w w' := by
  obtain ⟨l, ep, k, ve, d, i, v⟩ := r
  simp only at hki hkv ⊢
  have s1 : ∀ W : World, (Instr.slice 9 (.string i) none (some (.int .i64 (ki : Int))) none).run Try.prog W = .ok (.string (i.extract 0 ki)) W := by
    intro W
    rw [run_slice_string_h W _ _ Try.underlying9 .i64 (ki : Int) (by omega) (by omega), Int.toNat_natCast]
  have s2 : ∀ W : World, (Instr.slice 9 (.string v) none (some (.int .i64 (kv : Int))) none).run Try.prog W = .ok (.string (v.extract 0 kv)) W := by
    intro W
    rw [run_slice_string_h W _ _ Try.underlying9 .i64 (kv : Int) (by omega) (by omega), Int.toNat_natCast]
  have m1 : ∀ W, (Builtin.min_ #[3, 3] 3 #[.int .i64 (i.size : Int), .int .i64 80]).run Try.prog W = .ok (.int .i64 (ki : Int)) W := by
    intro W
    rw [run_min2R, show min (i.size : Int) 80 = (ki : Int) from by omega]
  have m2 : ∀ W, (Builtin.min_ #[3, 3] 3 #[.int .i64 (v.size : Int), .int .i64 80]).run Try.prog W = .ok (.int .i64 (kv : Int)) W := by
    intro W
    rw [run_min2R, show min (v.size : Int) 80 = (kv : Int) from by omega]
  have hi' : ¬ (i.size : Int) < (ki : Int) := by omega
  have hv' : ¬ (v.size : Int) < (kv : Int) := by omega
  obtain ⟨x, hx⟩ : ∃ x, x = (i.extract 0 ki) := ⟨_, rfl⟩
  obtain ⟨y, hy⟩ : ∃ y, y = (v.extract 0 kv) := ⟨_, rfl⟩
  rw [← hx] at s1 ⊢
  rw [← hy] at s2 ⊢
  clear hki hkv hx hy
  go_enter Try.func19, Try.ntmps19
  go_wp2_with fail
  have h := (two_newR w (.cells #[.int .u64 (l : Int), .int .u32 (ep : Int), .int .i64 k, .int .u64 (ve : Int), .int .u64 (d : Int), .string x, .string y] 34) (.cells #[.int .u64 (l : Int), .int .u32 (ep : Int), .int .i64 k, .int .u64 (ve : Int), .int .u64 (d : Int), .string x, .string y] 34)).2
  have hs := alloc_sizeR w (.cells #[.int .u64 (l : Int), .int .u32 (ep : Int), .int .i64 k, .int .u64 (ve : Int), .int .u64 (d : Int), .string x, .string y] 34)
  refine bodyPost_ret (v := .agg #[.int .u64 (l : Int), .int .u32 (ep : Int), .int .i64 k, .int .u64 (ve : Int), .int .u64 (d : Int), .string x, .string y]) ?_ rfl ⟨rfl, ?_⟩
  · exact results_cell_row (p := 2) (ty := 34) rfl _ _ (w.heap.size + 1) 34 _ (0, 0) _ rfl h Try.underlying34 rfl (by kernel_rfl)
  · exact ((Below.refl _ _).alloc (Nat.le_refl _) _).alloc (by rw [hs]; omega) _
theorem CutR_val (r : Rec) (w : World) : Calls Try.prog 19 #[.agg #[.int .u64 (r.lsn : Int), .int .u32 (r.ep : Int), .int .i64 r.kind, .int .u64 (r.ver : Int), .int .u64 (r.dl : Int), .string r.id, .string r.va]] w fun e w' => e = .returned (.agg #[.int .u64 (r.cut.lsn : Int), .int .u32 (r.cut.ep : Int), .int .i64 r.cut.kind, .int .u64 (r.cut.ver : Int), .int .u64 (r.cut.dl : Int), .string r.cut.id, .string r.cut.va]) ∧ Below w.heap.size w w' := CutR_form r _ _ w rfl rfl
set_option maxRecDepth 100000 in
theorem RefR_val (r : Rec) (w : World) : Calls Try.prog 26 #[.agg #[.int .u64 (r.lsn : Int), .int .u32 (r.ep : Int), .int .i64 r.kind, .int .u64 (r.ver : Int), .int .u64 (r.dl : Int), .string r.id, .string r.va]] w fun e w' => e = .returned (.agg #[.int .u64 (r.lsn : Int), .int .u32 (r.ep : Int), .int .i64 r.kind, .int .u64 (r.ver : Int), .int .u64 (r.dl : Int), .string r.id, .string r.va]) ∧ Below w.heap.size w w' := by
  obtain ⟨l, ep, k, ve, d, i, v⟩ := r
  simp only
  have n0 := (two_newR w (.cells #[.int .u64 (l : Int), .int .u32 (ep : Int), .int .i64 k, .int .u64 (ve : Int), .int .u64 (d : Int), .string i, .string v] 34) (.cells #[.int .u64 (l : Int), .int .u32 (ep : Int), .int .i64 k, .int .u64 (ve : Int), .int .u64 (d : Int), .string i, .string v] 69)).1
  go_enter Try.func26, Try.ntmps26
  go_wp2_with fail
  have h := (two_newR w (.cells #[.int .u64 (l : Int), .int .u32 (ep : Int), .int .i64 k, .int .u64 (ve : Int), .int .u64 (d : Int), .string i, .string v] 34) (.cells #[.int .u64 (l : Int), .int .u32 (ep : Int), .int .i64 k, .int .u64 (ve : Int), .int .u64 (d : Int), .string i, .string v] 69)).2
  have hs := alloc_sizeR w (.cells #[.int .u64 (l : Int), .int .u32 (ep : Int), .int .i64 k, .int .u64 (ve : Int), .int .u64 (d : Int), .string i, .string v] 34)
  refine bodyPost_ret (v := .agg #[.int .u64 (l : Int), .int .u32 (ep : Int), .int .i64 k, .int .u64 (ve : Int), .int .u64 (d : Int), .string i, .string v]) ?_ rfl ⟨rfl, ?_⟩
  · exact results_cell_row (p := 2) (ty := 69) rfl _ _ (w.heap.size + 1) 69 _ (0, 0) _ rfl h Try.underlying69 rfl (by kernel_rfl)
  · exact ((Below.refl _ _).alloc (Nat.le_refl _) _).alloc (by rw [hs]; omega) _
end Go.Proofs.Ythpompgcnemanaa.G
