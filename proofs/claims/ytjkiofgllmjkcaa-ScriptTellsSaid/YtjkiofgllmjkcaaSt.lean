/- An act with texts and lists of at most 300. -/
import Derived.Test.YtjkiofgllmjkcaaSg
import Derived.Test.YtjkiofgllmjkcaaGFast
import Derived.BigQuiet
namespace Go.Proofs.Ytjkiofgllmjkcaa.G
open Go.RowKit Go.Proofs.Ytjkiofgllmjkcaa.WordPlain
set_option linter.unusedVariables false
set_option linter.unusedSimpArgs false

theorem slice_cutS {P : Program} (W : World) (t : TypeId) (e : TypeId) (oa : Option Addr) (len cap k : Nat) (ht : P.underlying t = some (.slice e)) (hs : ((P.info? e).map (·.size)).isSome = true) (hk : k ≤ cap) :
    (Instr.sliceAt t (.slice oa len cap) none (some (.int .i64 (k : Int))) none).run P W = .ok (.slice oa k cap) W := by
  have he : P.elem t = e := by simp [Program.elem, ht]
  have ht' : P.underlying t = some (.slice (P.elem t)) := by rw [he]; exact ht
  rw [run_sliceAt_slice _ _ _ _ _ _ ht', run_slice_h (P := P) W t oa len cap ht' .i64 (k : Int) (by omega) (by omega), he]
  cases hq : P.info? e with
  | none => rw [hq] at hs; simp at hs
  | some i =>
    simp only [sizeOf, typeInfo]
    cases oa with
    | none => simp [hq, sliced]
    | some a => simp [hq, sliced, Addr.add]
theorem Sb.cut {w : World} {l : List Bool} {oa : Option Addr} {m cap : Nat} (h : Sb w (.slice oa m cap) l) (k : Nat) (hk : k = min l.length 300) : Sb w (.slice oa k cap) (l.take 300) ∧ m = l.length ∧ k ≤ cap := by
  rcases h with ⟨h0, oa', cap', hv, hc⟩ | ⟨h0, b, off, cap', hv, hc, hx⟩
  · injection hv with e1 e2 e3
    subst e1 e2 e3 h0
    have : k = 0 := by simpa using hk
    subst this
    exact ⟨Or.inl ⟨rfl, oa, cap, rfl, hc⟩, rfl, by omega⟩
  · injection hv with e1 e2 e3
    subst e1 e2 e3
    refine ⟨Or.inr ⟨?_, b, off, cap, ?_, ?_, ?_⟩, rfl, by omega⟩
    · intro h
      have h3 : (l.take 300).length = 0 := by rw [h]; rfl
      rw [List.length_take] at h3
      have h2 : 0 < l.length := List.length_pos_iff.2 h0
      omega
    · rw [List.length_take, hk, Nat.min_comm]
    · rw [List.length_take]; omega
    · intro i hi
      rw [List.length_take] at hi
      rw [hx i (by omega), List.getElem_take]

/-- with texts and lists of at most 300 -/
def Ac.cut (a : Ac) : Ac := { a with id := a.id.extract 0 (min a.id.size 300), va := a.va.extract 0 (min a.va.size 300), keep := a.keep.take 300 }

set_option maxRecDepth 100000 in
theorem Cut_form (k rk p to pl : Int) (i v : ByteArray) (t n m cap : Nat) (oa : Option Addr) (ki kv km : Nat) (w : World) (hki : ki = min i.size 300) (hkv : kv = min v.size 300) (hkm : km = min m 300) (hc : km ≤ cap) :
    Calls Try.prog 9 #[.agg #[.int .i64 k, .int .i64 rk, .string i, .string v, .float .f64 t, .int .i64 p, .int .u64 n, .slice oa m cap, .int .i64 to, .int .i64 pl]] w fun e w' => e = .returned (.agg #[.int .i64 k, .int .i64 rk, .string (i.extract 0 ki), .string (v.extract 0 kv), .float .f64 t, .int .i64 p, .int .u64 n, .slice oa km cap, .int .i64 to, .int .i64 pl]) ∧ Below w.heap.size w w' := by
  have s1 : ∀ W : World, (Instr.slice 9 (.string i) none (some (.int .i64 (ki : Int))) none).run Try.prog W = .ok (.string (i.extract 0 ki)) W := by
    intro W
    rw [run_slice_string_h W _ _ Try.underlying9 .i64 (ki : Int) (by omega) (by omega), Int.toNat_natCast]
  have s2 : ∀ W : World, (Instr.slice 9 (.string v) none (some (.int .i64 (kv : Int))) none).run Try.prog W = .ok (.string (v.extract 0 kv)) W := by
    intro W
    rw [run_slice_string_h W _ _ Try.underlying9 .i64 (kv : Int) (by omega) (by omega), Int.toNat_natCast]
  have s3 := fun W => slice_cutS (P := Try.prog) W 27 4 oa m cap km Try.underlying27 (by kernel_rfl) hc
  have m1 : ∀ W, (Builtin.min_ #[3, 3] 3 #[.int .i64 (i.size : Int), .int .i64 300]).run Try.prog W = .ok (.int .i64 (ki : Int)) W := by
    intro W
    rw [run_min2, show min (i.size : Int) 300 = (ki : Int) from by omega]
  have m2 : ∀ W, (Builtin.min_ #[3, 3] 3 #[.int .i64 (v.size : Int), .int .i64 300]).run Try.prog W = .ok (.int .i64 (kv : Int)) W := by
    intro W
    rw [run_min2, show min (v.size : Int) 300 = (kv : Int) from by omega]
  have m3 : ∀ W, (Builtin.min_ #[3, 3] 3 #[.int .i64 (m : Int), .int .i64 300]).run Try.prog W = .ok (.int .i64 (km : Int)) W := by
    intro W
    rw [run_min2, show min (m : Int) 300 = (km : Int) from by omega]
  have hi' : ¬ (i.size : Int) < (ki : Int) := by omega
  have hv' : ¬ (v.size : Int) < (kv : Int) := by omega
  have sfl := store_floatS
  obtain ⟨x, hx⟩ : ∃ x, x = (i.extract 0 ki) := ⟨_, rfl⟩
  obtain ⟨y, hy⟩ : ∃ y, y = (v.extract 0 kv) := ⟨_, rfl⟩
  rw [← hx] at s1 ⊢
  rw [← hy] at s2 ⊢
  clear hki hkv hkm hc hx hy
  go_enter Try.func9, Try.ntmps9
  go_wp2_with fail
  have h := heap_alloc_new (w.alloc (.cells #[.int .i64 k, .int .i64 rk, .string x, .string y, .float .f64 t, .int .i64 p, .int .u64 n, .slice oa km cap, .int .i64 to, .int .i64 pl] 29)) (.cells #[.int .i64 k, .int .i64 rk, .string x, .string y, .float .f64 t, .int .i64 p, .int .u64 n, .slice oa km cap, .int .i64 to, .int .i64 pl] 29)
  have hs : (w.alloc (.cells #[.int .i64 k, .int .i64 rk, .string x, .string y, .float .f64 t, .int .i64 p, .int .u64 n, .slice oa km cap, .int .i64 to, .int .i64 pl] 29)).heap.size = w.heap.size + 1 := by show (w.heap.push _).size = _; rw [Array.size_push]
  rw [hs] at h
  refine bodyPost_ret (v := .agg #[.int .i64 k, .int .i64 rk, .string x, .string y, .float .f64 t, .int .i64 p, .int .u64 n, .slice oa km cap, .int .i64 to, .int .i64 pl]) ?_ rfl ⟨rfl, ?_⟩
  · exact results_cell_row (p := 2) (ty := 29) rfl _ _ (w.heap.size + 1) 29 _ (0, 0) _ rfl h Try.underlying29 rfl (by kernel_rfl)
  · exact ((Below.refl _ _).alloc (Nat.le_refl _) _).alloc (by rw [hs]; omega) _

theorem Cut_val (a : Ac) (vk : Value) (w : World) (h : Sb w vk a.keep) :
    ∃ uk, Sb w uk a.cut.keep ∧ ∀ W, Calls Try.prog 9 #[.agg (a.row vk)] W fun e w' => e = .returned (.agg (a.cut.row uk)) ∧ Below W.heap.size W w' := by
  obtain ⟨oa, cap, rfl⟩ := h.form
  obtain ⟨a1, _, a3⟩ := h.cut _ rfl
  exact ⟨_, a1, fun W => Cut_form a.kind a.rk a.pick a.torn a.pl a.id a.va a.ttl a.n a.keep.length cap oa _ _ _ W rfl rfl rfl a3⟩
theorem Ac.Kind.cut {a : Ac} (h : a.Kind) : a.cut.Kind :=
  ⟨h.kind, h.rk, by show (a.id.extract 0 _).size ≤ _; rw [ByteArray.size_extract]; omega, by show (a.va.extract 0 _).size ≤ _; rw [ByteArray.size_extract]; omega, h.ttl, h.pick, h.n, by show (a.keep.take 300).length ≤ _; rw [List.length_take]; omega, h.torn, h.pl⟩
theorem Ac.cut_small (a : Ac) : a.cut.id.size ≤ 300 ∧ a.cut.va.size ≤ 300 ∧ a.cut.keep.length ≤ 300 :=
  ⟨by show (a.id.extract 0 _).size ≤ _; rw [ByteArray.size_extract]; omega, by show (a.va.extract 0 _).size ≤ _; rw [ByteArray.size_extract]; omega, by show (a.keep.take 300).length ≤ _; rw [List.length_take]; omega⟩
end Go.Proofs.Ytjkiofgllmjkcaa.G
