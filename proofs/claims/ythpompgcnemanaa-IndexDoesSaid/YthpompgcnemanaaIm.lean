/- The index: its entries, its places, and how they stand in memory. -/
import Derived.Test.YthpompgcnemanaaGMp
import Derived.Test.YthpompgcnemanaaIr
import Derived.DeepKeys4
namespace Go.Proofs.Ythpompgcnemanaa.G
open Go.RowKit Go.Maps
set_option linter.unusedVariables false
set_option linter.unusedSimpArgs false

structure Ent where
  ver : Nat
  dl : Nat
  live : Bool
  sz : Int
  seg : Int
  slot : Int
  deriving DecidableEq
def Ent.row (s : Ent) : Array Value := #[.int .u64 s.ver, .int .u64 s.dl, .bool s.live, .int .i64 s.sz, .int .i64 s.seg, .int .i64 s.slot]
def Ent.zero : Ent := ⟨0, 0, false, 0, 0, 0⟩
abbrev Plc := Int × Int
abbrev Ent.at_ (s : Ent) : Plc := (s.seg, s.slot)
def entD (s : Ent) : DataW Unit := .agg [.lit (.int .u64 s.ver), .lit (.int .u64 s.dl), .lit (.bool s.live), .lit (.int .i64 s.sz), .lit (.int .i64 s.seg), .lit (.int .i64 s.slot)]
def entR (v : Value) : Option (DataW Unit × List MemPlace) :=
  match v with
  | .agg cs => match cs.toList with
    | [.int .u64 (.ofNat a), .int .u64 (.ofNat d), .bool l, .int .i64 z, .int .i64 s, .int .i64 t] => some (entD ⟨a, d, l, z, s, t⟩, [])
    | _ => none
  | _ => none
def idR (v : Value) : Option (DataW Unit × List MemPlace) :=
  match v with
  | .agg cs => match cs.toList with
    | [.string a] => some (.lit (.string a.data.toList), [])
    | _ => none
  | _ => none
/-- ids and their entries -/
def kN : Mk ByteArray Ent where
  kv k := .string k
  kl k := .string (bl8 k)
  ok k := k.size ≤ maxLen
  mv s := .agg s.row
  cd := entD
  R := entR
  zero := Ent.zero
/-- places and whose record stands there -/
def kP : Mk Plc ByteArray where
  kv p := .agg #[.int .i64 p.1, .int .i64 p.2]
  kl p := .string (keyBytes [.int .i64 p.1, .int .i64 p.2])
  ok p := (Lit.int .i64 p.1).wf = true ∧ (Lit.int .i64 p.2).wf = true
  mv k := .agg #[.string k]
  cd k := .lit (.string (bl8 k))
  R := idR
  zero := ⟨#[]⟩
theorem str_key : Keyed Try.prog 9 := string_keyed Try.underlying9
theorem ix_laid : laidOutB Try.prog = true := by kernel_rfl
theorem loc_row : (36 : TypeId) < Try.prog.types.size := of_decide_eq_true (by kernel_rfl)
theorem loc_wide : (match Try.prog.underlying 36 with | some (.array _ _) | some (.struct _) => true | _ => false) = true := by rw [Try.underlying36]
set_option maxRecDepth 100000 in
theorem loc_key : Keyed Try.prog 36 := Keyed.of_law (deep_law_laid ix_laid (m := 3) (by omega) loc_row (by kernel_rfl) loc_wide)
theorem ent_of {v : Value} {y : DataW Unit × List MemPlace} (h : entR v = some y) : ∃ s : Ent, v = .agg s.row := by
  unfold entR at h
  split at h
  · rename_i cs
    split at h
    · rename_i a d l z s t hl
      refine ⟨⟨a, d, l, z, s, t⟩, ?_⟩
      have : cs = #[.int .u64 (a : Int), .int .u64 (d : Int), .bool l, .int .i64 z, .int .i64 s, .int .i64 t] := by
        apply Array.toList_inj.1
        rw [hl]; rfl
      rw [this]; rfl
    · cases h
  · cases h
theorem id_of {v : Value} {y : DataW Unit × List MemPlace} (h : idR v = some y) : ∃ k : ByteArray, v = .agg #[.string k] := by
  unfold idR at h
  split at h
  · rename_i cs
    split at h
    · rename_i a hl
      refine ⟨a, ?_⟩
      have : cs = #[.string a] := by
        apply Array.toList_inj.1
        rw [hl]
      rw [this]
    · cases h
  · cases h
theorem entD_inj {s t : Ent} (h : entD s = entD t) : s = t := by
  unfold entD at h
  injection h with h
  simp only [List.cons.injEq, DataW.lit.injEq, Lit.int.injEq, Lit.bool.injEq, true_and, and_true] at h
  obtain ⟨h1, h2, h3, h4, h5, h6⟩ := h
  have e1 : s.ver = t.ver := by omega
  have e2 : s.dl = t.dl := by omega
  cases s; cases t; simp only at e1 e2 h3 h4 h5 h6; subst e1 e2 h3 h4 h5 h6; rfl
theorem kN_law : kN.Law Try.prog 64 9 49 where
  K := str_key
  ht := Try.underlying64
  key x hx := Go.WideMaps.keyOf_string_mk Try.underlying9 hx
  inv {v l} h := by
    cases v <;> simp [keyOf, Try.underlying9, mapKey] at h
    rename_i s
    exact ⟨s, h.1, rfl⟩
  kvinj h := by injection h
  Rmk s := by cases s; rfl
  Rinv h := ent_of h
  cdinj h := entD_inj h
  zero W := by kernel_rfl
theorem loc_kt : Try.prog.keyType 36 = true := by kernel_rfl
theorem loc_cells : Try.prog.cellsOf 36 = 2 := by kernel_rfl
theorem int_cells : Try.prog.cellsOf 3 = 1 := by kernel_rfl
theorem loc_sz : ∃ m, Try.prog.types.size = m + 1 := Nat.exists_eq_succ_of_ne_zero (Nat.ne_of_gt (Nat.lt_of_le_of_lt (Nat.zero_le _) loc_row))
theorem keyOf_loc (p : Plc) (h : kP.ok p) : keyOf Try.prog 36 (kP.kv p) = some (kP.kl p) := by
  obtain ⟨m, hm⟩ := loc_sz
  obtain ⟨a, b⟩ := p
  obtain ⟨h1, h2⟩ : (Lit.int .i64 a).wf = true ∧ (Lit.int .i64 b).wf = true := h
  show keyOf Try.prog 36 (.agg #[.int .i64 a, .int .i64 b]) = some (.string (keyBytes [.int .i64 a, .int .i64 b]))
  unfold keyOf
  simp only [Try.underlying36]
  rw [if_pos (by simp [loc_kt, Value.formed, Try.underlying36, loc_cells]), hm]
  unfold Program.keyLits
  simp only [Try.underlying36, Value.cells]
  rw [if_pos (by simp [loc_cells])]
  simp [int_cells, Program.keyLits, Try.underlying3, h1, h2]
set_option maxRecDepth 100000 in
theorem keyLits_int {m : Nat} {c : Value} {ls : List Lit} (h : Try.prog.keyLits (m + 1) 3 [c] = some ls) : ∃ z, c = .int .i64 z ∧ (Lit.int .i64 z).wf = true := by
  unfold Program.keyLits at h
  rw [Try.underlying3] at h
  cases c <;> simp at h
  obtain ⟨⟨rfl, h1⟩, _⟩ := h
  exact ⟨_, rfl, h1⟩
theorem keyOf_loc_inv {v : Value} {l : Lit} (h : keyOf Try.prog 36 v = some l) : ∃ p : Plc, kP.ok p ∧ v = kP.kv p := by
  obtain ⟨m, hm⟩ := loc_sz
  unfold keyOf at h
  simp only [Try.underlying36] at h
  split at h
  · rename_i hf
    simp only [Bool.and_eq_true] at hf
    obtain ⟨_, hf⟩ := hf
    cases v <;> simp [Value.formed, Try.underlying36, loc_cells] at hf
    rename_i cs
    rw [hm] at h
    unfold Program.keyLits at h
    simp only [Try.underlying36, Value.cells] at h
    obtain ⟨ls⟩ := cs
    have hl : ls.length = 2 := hf
    obtain ⟨c0, c1, rfl⟩ : ∃ c0 c1, ls = [c0, c1] := by
      rcases ls with _ | ⟨c0, _ | ⟨c1, _ | ⟨c2, r⟩⟩⟩
      · cases hl
      · cases hl
      · exact ⟨_, _, rfl⟩
      · simp at hl
    rw [if_pos (by simp [loc_cells])] at h
    simp [int_cells] at h
    cases h0 : Try.prog.keyLits (m + 1) 3 [c0] with
    | none => rw [h0] at h; cases h
    | some l0 =>
      cases h1 : Try.prog.keyLits (m + 1) 3 [c1] with
      | none => rw [h0, h1] at h; cases h
      | some l1 =>
        obtain ⟨a, rfl, ha⟩ := keyLits_int h0
        obtain ⟨b, rfl, hb⟩ := keyLits_int h1
        exact ⟨(a, b), ⟨ha, hb⟩, rfl⟩
  · cases h
set_option maxRecDepth 100000 in
theorem kP_law : kP.Law Try.prog 65 36 82 where
  K := loc_key
  ht := Try.underlying65
  key x hx := keyOf_loc x hx
  inv {v l} h := by
    exact keyOf_loc_inv h
  kvinj {x y} h := by
    have e : (#[.int .i64 x.1, .int .i64 x.2] : Array Value) = #[.int .i64 y.1, .int .i64 y.2] := by injection h
    simp at e
    exact Prod.ext e.1 e.2
  Rmk s := rfl
  Rinv h := id_of h
  cdinj {s t} h := by
    injection h with h
    injection h with h
    exact bl8_inj h
  zero W := by kernel_rfl
end Go.Proofs.Ythpompgcnemanaa.G
