/- Records; a map of records in memory: what it holds, key by key. -/
import Derived.Test.YtlnhdbbhlcpkbaaGMisc
import Derived.Test.YtlnhdbbhlcpkbaaGWordm
import Derived.Maps.OwnSet
import Derived.Sort.KeysCollected
import Derived.OwnWalk
namespace Go.Proofs.Ytlnhdbbhlcpkbaa.G
open Go.RowKit Go.Maps
set_option linter.unusedVariables false
set_option linter.unusedSimpArgs false

structure Rec where
  lsn : Nat
  ep : Nat
  kind : Int
  ver : Nat
  dl : Nat
  id : ByteArray
  va : ByteArray
  deriving DecidableEq
def Rec.row (s : Rec) : Array Value := #[.int .u64 s.lsn, .int .u32 s.ep, .int .i64 s.kind, .int .u64 s.ver, .int .u64 s.dl, .string s.id, .string s.va]
abbrev encR (s : Rec) : List Value := [.int .u64 s.lsn, .int .u32 s.ep, .int .i64 s.kind, .int .u64 s.ver, .int .u64 s.dl, .string s.id, .string s.va]
def Rec.zero : Rec := ⟨0, 0, 0, 0, 0, ⟨#[]⟩, ⟨#[]⟩⟩
structure Rec.Kind (s : Rec) : Prop where
  lsn : s.lsn < 18446744073709551616
  ep : s.ep < 4294967296
  kind : -9223372036854775808 ≤ s.kind ∧ s.kind < 9223372036854775808
  ver : s.ver < 18446744073709551616
  dl : s.dl < 18446744073709551616
  id : s.id.size ≤ 140737488351232
  va : s.va.size ≤ 140737488351232
/-- one that lives -/
structure Ses where
  id : ByteArray
  va : ByteArray
  dl : Nat
  deriving DecidableEq
def Ses.row (s : Ses) : Array Value := #[.string s.id, .string s.va, .int .u64 s.dl]
abbrev encS (s : Ses) : List Value := [.string s.id, .string s.va, .int .u64 (s.dl : Int)]

/-- what a record reads as -/
def cd (s : Rec) : DataW Unit := .agg [.lit (.int .u64 s.lsn), .lit (.int .u32 s.ep), .lit (.int .i64 s.kind), .lit (.int .u64 s.ver), .lit (.int .u64 s.dl), .lit (.string s.id.data.toList), .lit (.string s.va.data.toList)]
def RS (v : Value) : Option (DataW Unit × List MemPlace) :=
  match v with
  | .agg cs => match cs.toList with
    | [.int .u64 (.ofNat l), .int .u32 (.ofNat e), .int .i64 k, .int .u64 (.ofNat v), .int .u64 (.ofNat d), .string a, .string b] => some (cd ⟨l, e, k, v, d, a, b⟩, [])
    | _ => none
  | _ => none
theorem RS_mk (s : Rec) : RS (.agg s.row) = some (cd s, []) := by
  show (match s.row.toList with | [.int .u64 (.ofNat l), .int .u32 (.ofNat e), .int .i64 k, .int .u64 (.ofNat v), .int .u64 (.ofNat d), .string a, .string b] => some (cd ⟨l, e, k, v, d, a, b⟩, []) | _ => none) = _
  rfl
theorem cd_inj {s t : Rec} (h : cd s = cd t) : s = t := by
  unfold cd at h
  injection h with h
  simp only [List.cons.injEq, DataW.lit.injEq, Lit.string.injEq, Lit.int.injEq, true_and, and_true] at h
  obtain ⟨h1, h2, h3, h4, h5, h6, h7⟩ := h
  have e6 : s.id = t.id := ByteArray.ext (Array.toList_inj.1 h6)
  have e7 : s.va = t.va := ByteArray.ext (Array.toList_inj.1 h7)
  have e1 : s.lsn = t.lsn := by omega
  have e2 : s.ep = t.ep := by omega
  have e4 : s.ver = t.ver := by omega
  have e5 : s.dl = t.dl := by omega
  cases s; cases t; simp only at e1 e2 h3 e4 e5 e6 e7; subst e1 e2 h3 e4 e5 e6 e7; rfl
theorem RS_some {v : Value} {z : DataW Unit × List MemPlace} (h : RS v = some z) : ∃ s : Rec, v = .agg s.row ∧ z = (cd s, []) := by
  unfold RS at h
  split at h
  · rename_i cs
    split at h
    · rename_i l e k v d a b hl
      refine ⟨⟨l, e, k, v, d, a, b⟩, ?_, ?_⟩
      · have : cs = #[.int .u64 (l : Int), .int .u32 (e : Int), .int .i64 k, .int .u64 (v : Int), .int .u64 (d : Int), .string a, .string b] := by
          apply Array.toList_inj.1
          rw [hl]; rfl
        rw [this]; rfl
      · injection h with h; exact h.symm
    · cases h
  · cases h
theorem RS_inv {v : Value} {s : Rec} {ps : List MemPlace} (h : RS v = some (cd s, ps)) : v = .agg s.row := by
  obtain ⟨t, h1, h2⟩ := RS_some h
  injection h2 with h2 h3
  rw [h1, cd_inj h2]

theorem str_key : Keyed Try.prog 9 := string_keyed Try.underlying9
theorem zero_rec (W : World) : (zeroValue 42).run Try.prog W = .ok (.agg Rec.zero.row) W := by kernel_rfl
abbrev bl8 (k : ByteArray) : List UInt8 := k.data.toList
theorem bl8_inj {a b : ByteArray} (h : bl8 a = bl8 b) : a = b := ByteArray.ext (Array.toList_inj.1 h)
/-- the block is a map that holds f, of at most n entries -/
def MapIs (w : World) (b n : Nat) (f : ByteArray → Option Rec) : Prop :=
  ∃ D : DataW Unit, w.ownsMap Try.prog 9 RS b n D ∧ ∀ k : ByteArray, Maps.has D (.string (bl8 k)) = (f k).isSome ∧ ∀ s, f k = some s → ∀ z, D.atKey (.string (bl8 k)) z = cd s
def upd (f : ByteArray → Option Rec) (k : ByteArray) (s : Option Rec) : ByteArray → Option Rec := fun x => if x = k then s else f x
theorem MapIs.made (w : World) : MapIs (w.alloc (.map #[] 0)) w.heap.size 0 (fun _ => none) :=
  ⟨.map [], World.ownsMap_made _ _ _ _, fun k => ⟨rfl, fun s h => by cases h⟩⟩
theorem MapIs.lt {w : World} {b n : Nat} {f : ByteArray → Option Rec} (h : MapIs w b n f) : b < w.heap.size := let ⟨_, h, _⟩ := h; h.lt
theorem MapIs.kept {w w' : World} {b n : Nat} {f : ByteArray → Option Rec} (h : MapIs w b n f) (he : w'.heap[b]? = w.heap[b]?) : MapIs w' b n f := by
  obtain ⟨D, ⟨es, clock, hb, F, hs, hD⟩, hf⟩ := h
  exact ⟨D, ⟨es, clock, he.trans hb, F, hs, hD⟩, hf⟩
theorem MapIs.below {w w' : World} {b n : Nat} {f : ByteArray → Option Rec} (h : MapIs w b n f) (hb : Below w.heap.size w w') : MapIs w' b n f := h.kept (hb.block b h.lt)
theorem MapIs.mono {w : World} {b n m : Nat} {f : ByteArray → Option Rec} (h : MapIs w b n f) (hm : n ≤ m) : MapIs w b m f := let ⟨D, h, hf⟩ := h; ⟨D, h.mono hm, hf⟩
theorem key_mk (k : ByteArray) (hk : k.size ≤ 140737488351232) : keyOf Try.prog 9 (.string k) = some (.string (bl8 k)) := Go.WideMaps.keyOf_string_mk Try.underlying9 (by unfold maxLen; omega)
/-- what stands at a key -/
theorem MapIs.look {w : World} {b n : Nat} {f : ByteArray → Option Rec} (h : MapIs w b n f) (k : ByteArray) (hk : k.size ≤ 140737488351232) :
    (Instr.lookup 52 (.map (some b)) (.string k) true).run Try.prog w = .ok (.tuple #[.agg ((f k).getD Rec.zero).row, .bool (f k).isSome]) w := by
  obtain ⟨D, hown, hf⟩ := h
  obtain ⟨v, ps, hr, hv⟩ := hown.look_ok str_key Try.underlying52 (zero_rec w) (RS_mk Rec.zero) (key_mk k hk)
  obtain ⟨h1, h2⟩ := hf k
  rw [hr, h1]
  cases hs : f k with
  | none =>
    rw [hs] at h1
    rw [atKey_of_not_has h1] at hv
    rw [RS_inv hv]; rfl
  | some s =>
    rw [h2 s hs] at hv
    rw [RS_inv hv]; rfl
theorem MapIs.upd_ok {D D' : DataW Unit} {f : ByteArray → Option Rec} {k : ByteArray} {s : Option Rec} (hf : ∀ k : ByteArray, Maps.has D (.string (bl8 k)) = (f k).isSome ∧ ∀ s, f k = some s → ∀ z, D.atKey (.string (bl8 k)) z = cd s)
    (h0 : Maps.has D' (.string (bl8 k)) = s.isSome) (h1 : ∀ t, s = some t → ∀ z, D'.atKey (.string (bl8 k)) z = cd t) (h2 : ∀ x : ByteArray, x ≠ k → Maps.has D' (.string (bl8 x)) = Maps.has D (.string (bl8 x)) ∧ ∀ z, D'.atKey (.string (bl8 x)) z = D.atKey (.string (bl8 x)) z) :
    ∀ x : ByteArray, Maps.has D' (.string (bl8 x)) = (upd f k s x).isSome ∧ ∀ t, upd f k s x = some t → ∀ z, D'.atKey (.string (bl8 x)) z = cd t := by
  intro x
  unfold upd
  by_cases hx : x = k
  · subst hx
    rw [if_pos rfl]
    exact ⟨h0, h1⟩
  · rw [if_neg hx]
    obtain ⟨a, b⟩ := h2 x hx
    exact ⟨a.trans (hf x).1, fun t ht z => (b z).trans ((hf x).2 t ht z)⟩
theorem lit_ne {x k : ByteArray} (h : x ≠ k) : (Lit.string (bl8 x)) ≠ .string (bl8 k) := fun e => h (bl8_inj (by injection e))
/-- a session is put in -/
theorem MapIs.store {w : World} {b n : Nat} {f : ByteArray → Option Rec} (h : MapIs w b n f) (hn : n < 1000000) (k : ByteArray) (hk : k.size ≤ 140737488351232) (s : Rec) :
    ∃ w', (Instr.mapUpdate 52 (.map (some b)) (.string k) (.agg s.row)).run Try.prog w = .ok () w' ∧ MapIs w' b (n + 1) (upd f k (some s)) ∧ w.grownBy w' (some b) ∧ w'.heap.size = w.heap.size := by
  obtain ⟨D, hown, hf⟩ := h
  obtain ⟨w', hr, h1, h2⟩ := hown.store str_key Try.underlying52 (by unfold maxLen; omega) (key_mk k hk) (RS_mk s)
  refine ⟨w', hr, ⟨_, h1, MapIs.upd_ok hf (has_put_same (k := .string (bl8 k)) hown.isMap trivial _) (fun t ht z => ?_) (fun x hx => ⟨has_put_other (lit_ne hx) _, fun z => atKey_put_other (lit_ne hx) _ z⟩)⟩, h2.grown, ?_⟩
  · cases ht
    exact atKey_put_same (k := .string (bl8 k)) hown.isMap trivial _ z
  · obtain ⟨es, c, es', c', hb, rfl⟩ := h2
    simp [Go.ChangeMaps.setBlock]
/-- one is taken out -/
theorem MapIs.drop {w : World} {b n : Nat} {f : ByteArray → Option Rec} (h : MapIs w b n f) (k : ByteArray) (hk : k.size ≤ 140737488351232) (ty : TypeId) :
    ∃ w', (Builtin.delete_ #[52, 9] ty #[.map (some b), .string k]).run Try.prog w = .ok (.tuple #[]) w' ∧ MapIs w' b n (upd f k none) ∧ w.grownBy w' (some b) ∧ w'.heap.size = w.heap.size := by
  obtain ⟨D, hown, hf⟩ := h
  obtain ⟨w', hr, h1, h2⟩ := hown.drop str_key Try.underlying52 (key_mk k hk) ty
  refine ⟨w', hr, ⟨_, h1, MapIs.upd_ok hf has_del_same (fun t ht => by cases ht) (fun x hx => ⟨has_del_other (lit_ne hx), fun z => atKey_del_other (lit_ne hx) z⟩)⟩, h2.grown, ?_⟩
  obtain ⟨es, c, es', c', hb, rfl⟩ := h2
  simp [Go.ChangeMaps.setBlock]
end Go.Proofs.Ytlnhdbbhlcpkbaa.G
