/- Lists of acts in memory; their bytes: script.Encode. -/
import Derived.Test.YtjkiofgllmjkcaaS5b
namespace Go.Proofs.Ytjkiofgllmjkcaa.G
open Go.RowKit Go.Proofs.Ytjkiofgllmjkcaa.WordPlain
set_option linter.unusedVariables false
set_option linter.unusedSimpArgs false

/-- an act's cells at a place -/
def AtC (w : World) (b o : Nat) (a : Ac) (vk : Value) : Prop :=
  w.cell? ⟨b, o, none⟩ = some (.int .i64 a.kind) ∧ w.cell? ⟨b, o + 1, none⟩ = some (.int .i64 a.rk) ∧ w.cell? ⟨b, o + 2, none⟩ = some (.string a.id) ∧ w.cell? ⟨b, o + 3, none⟩ = some (.string a.va) ∧ w.cell? ⟨b, o + 4, none⟩ = some (.float .f64 a.ttl) ∧
  w.cell? ⟨b, o + 5, none⟩ = some (.int .i64 a.pick) ∧ w.cell? ⟨b, o + 6, none⟩ = some (.int .u64 a.n) ∧ w.cell? ⟨b, o + 7, none⟩ = some vk ∧ w.cell? ⟨b, o + 8, none⟩ = some (.int .i64 a.torn) ∧ w.cell? ⟨b, o + 9, none⟩ = some (.int .i64 a.pl)
theorem AtC.below {B : Nat} {w w' : World} {b o : Nat} {a : Ac} {vk : Value} (h : AtC w b o a vk) (hb : Below B w w') (hB : w.heap.size ≤ B) : AtC w' b o a vk := by
  have hlt := Nat.lt_of_lt_of_le (block_lt_of_cell h.1) hB
  have f : ∀ j, w'.cell? ⟨b, j, none⟩ = w.cell? ⟨b, j, none⟩ := fun j => hb.cell (p := ⟨b, j, none⟩) hlt
  unfold AtC
  rw [f, f, f, f, f, f, f, f, f, f]
  exact h
/-- a list of acts in memory -/
def SA (w : World) (v : Value) (l : List Ac) : Prop :=
  (l = [] ∧ ∃ oa cap, v = .slice oa 0 cap) ∨
  (l ≠ [] ∧ ∃ b off cap, v = .slice (some ⟨b, off, none⟩) l.length cap ∧ l.length ≤ cap ∧ ∀ i (h : i < l.length), ∃ vk, Sb w vk l[i].keep ∧ AtC w b (off + i * 10) l[i] vk)
theorem SA.below {B : Nat} {w w' : World} {v : Value} {l : List Ac} (h : SA w v l) (hb : Below B w w') (hB : w.heap.size ≤ B) : SA w' v l := by
  rcases h with h | ⟨h0, b, off, cap, hv, hc, hx⟩
  · exact Or.inl h
  · refine Or.inr ⟨h0, b, off, cap, hv, hc, fun i hi => ?_⟩
    obtain ⟨vk, h1, h2⟩ := hx i hi
    exact ⟨vk, h1.below hb hB, h2.below hb hB⟩
theorem SA.form {w : World} {v : Value} {l : List Ac} (h : SA w v l) : ∃ oa cap, v = .slice oa l.length cap := by
  rcases h with ⟨rfl, oa, cap, rfl⟩ | ⟨_, b, off, cap, rfl, _⟩
  · exact ⟨oa, cap, rfl⟩
  · exact ⟨_, cap, rfl⟩
def encB (l : List Ac) : ByteArray := l.foldl (fun s a => s ++ a.bytes) ⟨#[]⟩
theorem encB_snoc (l : List Ac) (a : Ac) : encB (l ++ [a]) = encB l ++ a.bytes := by unfold encB; rw [List.foldl_append]; rfl
def allR (l : List Ac) : Prop := ∀ a ∈ l, a.Right
instance (l : List Ac) : Decidable (allR l) := by unfold allR; infer_instance
def encV (l : List Ac) : ByteArray := if allR l then encB l else ⟨#[]⟩
def encE (l : List Ac) : Int := if allR l then 0 else 5
theorem bytes_small (a : Ac) (h : a.Right) : a.bytes.size ≤ 600 := by
  have hf := h.2
  clear h
  obtain ⟨k, rk, i, v, t, p, n, l, to, pl⟩ := a
  unfold Ac.bytes
  unfold Ac.fits at hf
  simp only at hf ⊢
  by_cases e0 : k = 0
  · simp only [if_pos e0] at hf ⊢
    simp only [ByteArray.size_append, wput_size, txt_size]
    omega
  simp only [if_neg e0] at hf ⊢
  by_cases e1 : k = 1
  · simp only [if_pos e1, ByteArray.size_append, wput_size]; omega
  simp only [if_neg e1] at hf ⊢
  by_cases e2 : k = 2
  · simp only [if_pos e2, ByteArray.size_append, wput_size]; omega
  simp only [if_neg e2] at hf ⊢
  by_cases e4 : k = 4
  · simp only [if_pos e4, ByteArray.size_append, wput_size]; omega
  simp only [if_neg e4] at hf ⊢
  by_cases e5 : k = 5
  · simp only [if_pos e5] at hf ⊢
    simp only [ByteArray.size_append, wput_size, txt_size, kb_size]
    omega
  simp only [if_neg e5, wput_size]; omega
theorem encB_small : ∀ (l : List Ac), allR l → (encB l).size ≤ 600 * l.length := by
  intro l
  rw [← List.reverse_reverse l]
  induction l.reverse with
  | nil => intro _; exact Nat.zero_le _
  | cons a r ih =>
    intro h
    rw [List.reverse_cons] at h ⊢
    rw [encB_snoc, ByteArray.size_append, List.length_append]
    have h1 := ih (fun x hx => h x (List.mem_append_left _ hx))
    have h2 := bytes_small a (h a (by simp))
    simp only [List.length_cons, List.length_nil]
    omega
theorem allR_take_next (l : List Ac) (k : Nat) (h : k < l.length) (h1 : allR (l.take k)) (h2 : l[k].Right) : allR (l.take (k + 1)) := by
  intro a ha
  rw [List.take_succ_eq_append_getElem h] at ha
  rcases List.mem_append.1 ha with h3 | h3
  · exact h1 a h3
  · rw [List.mem_singleton.1 h3]; exact h2

theorem store_floatS (a : Addr) (k : Nat) (m : Mode) (W : World) : (store a (.float .f64 k) m).run Try.prog W = stored Try.prog W a (.float .f64 k) m := run_store _ W a _ m rfl
set_option maxRecDepth 100000 in
set_option maxHeartbeats 2000000 in
theorem Encode_some (l : List Ac) (n b off cap : Nat) (w : World) (hn : n = l.length) (hnb : n ≤ 140737488351232) (hk : ∀ a ∈ l, a.Kind) (hx : ∀ i (h : i < l.length), ∃ vk, Sb w vk l[i].keep ∧ AtC w b (off + i * 10) l[i] vk) (zs : ByteArray) (ze : Int) (hs : Hid (zs = encV l)) (he : Hid (ze = encE l)) :
    Calls Try.prog 10 #[.slice (some ⟨b, off, none⟩) n cap] w fun e w' => e = .returned (.tuple #[.string zs, .int .i64 ze]) ∧ Below w.heap.size w w' := by
  have HX := Lib.hid hx
  have HN := Lib.hid hn
  have HK := Lib.hid hk
  clear hx hn hk
  go_enter Try.func10, Try.ntmps10
  go_wp2_with fail
  go_loopw [4, 9] (fun s i wr => ∃ k : Nat, k ≤ n ∧ i = .int .i64 k ∧ s = .string (encB (l.take k)) ∧ allR (l.take k) ∧ Below w.heap.size w wr) (fun _ i _ => n - (intOf i).toNat)
  case atStart => exact ⟨0, by omega, rfl, rfl, by intro a ha; simp at ha, Below.refl _ _⟩
  case round =>
    obtain ⟨q, hq, rfl, rfl, hall, hbl⟩ := hrel
    have HA := Lib.hid hall
    have HBL := Lib.hid hbl
    clear hall hbl
    by_cases hlt : q < n
    · have hql : q < l.length := by have := HN.out; omega
      have hkn : (q : Int) < (n : Int) := by omega
      obtain ⟨vk, sv, cs⟩ := HX.out q hql
      have sv := sv.below HBL.out (Nat.le_refl _)
      have cs := cs.below HBL.out (Nat.le_refl _)
      have hkk := HK.out l[q] (List.getElem_mem hql)
      obtain ⟨a, ha⟩ : ∃ a, a = l[q] := ⟨_, rfl⟩
      rw [← ha] at sv cs hkk
      have HAE := Lib.hid ha
      clear ha
      have hrow := heap_alloc_new wr (.cells (a.row vk) 29)
      have hbr : Below wr.heap.size wr (wr.alloc (.cells (a.row vk) 29)) := (Below.refl _ _).alloc (Nat.le_refl _) _
      have hR := Right_val a vk (wr.alloc (.cells (a.row vk) 29)) hkk.keep (sv.below hbr (Nat.le_refl _))
      obtain ⟨oa, cap', rfl⟩ := sv.form
      obtain ⟨c0, c1, c2, c3, c4, c5, c6, c7, c8, c9⟩ := cs
      have SV := Lib.hid sv
      have KK := Lib.hid hkk
      have HR := Lib.hid hR
      have HRW := Lib.hid hrow
      have HBR := Lib.hid hbr
      clear sv hkk hR hrow hbr
      have sf := store_floatS
      by_cases hr : a.Right
      · have HRT := Lib.hid hr
        rw [decide_eq_true hr] at HR
        have hsz := encB_small _ HA.out
        have hbz := bytes_small a hr
        rw [List.length_take] at hsz
        have q1 : (9223372036854775807 < (encB (l.take q)).size + a.bytes.size) = False := eq_false (by omega)
        clear hr hsz hbz
        go_wp2_with fail
        refine (HR.out).mono ?_; rintro e w1 ⟨rfl, hb1⟩
        have g1 := below_step HBR.out hb1
        have hr1 := (hb1.block _ (lt_of_rowS HRW.out)).trans HRW.out
        have hB := bytes_val a (.slice oa a.keep.length cap') w1 HRT.out KK.out (SV.out.below g1 (Nat.le_refl _))
        obtain ⟨d0, d1, d2, d3, d4, d5, d6, d7, d8, d9⟩ := cells10 hr1
        have HB := Lib.hid hB
        have G1 := Lib.hid g1
        clear hB g1 hb1 hr1 c0 c1 c2 c3 c4 c5 c6 c7 c8 c9
        go_wp2_with fail
        refine (HB.out).mono ?_; rintro e w2 ⟨rfl, hb2⟩
        go_wp2_with fail
        go_roundw
        case rel =>
          refine ⟨q + 1, by omega, by go_num, ?_, allR_take_next l q hql HA.out (by rw [← HAE.out]; exact HRT.out), below_step HBL.out (below_step G1.out hb2)⟩
          rw [List.take_succ_eq_append_getElem hql, encB_snoc, ← HAE.out]
        case measure => simp [intOf]; omega
      · rw [decide_eq_false hr] at HR
        have hna : ¬ allR l := fun h => hr (by rw [HAE.out]; exact h _ (List.getElem_mem hql))
        have e1 : zs = ⟨#[]⟩ := by rw [hs.out]; unfold encV; rw [if_neg hna]
        have e2 : ze = 5 := by rw [he.out]; unfold encE; rw [if_neg hna]
        subst e1 e2
        clear hna hr
        go_wp2_with fail
        refine (HR.out).mono ?_; rintro e w1 ⟨rfl, hb1⟩
        go_wp2_with fail
        go_ret2
        exact ⟨rfl, below_step HBL.out (below_step HBR.out hb1)⟩
    · obtain rfl : q = n := by omega
      have hall := HA.out
      have e0 : l.take q = l := List.take_of_length_le (by have := HN.out; omega)
      rw [e0] at hall
      rw [e0]
      have e1 : zs = encB l := by rw [hs.out]; unfold encV; rw [if_pos hall]
      have e2 : ze = 0 := by rw [he.out]; unfold encE; rw [if_pos hall]
      subst e1 e2
      clear hall e0
      go_wp2_with fail
      go_ret2
      exact ⟨rfl, HBL.out⟩

set_option maxRecDepth 100000 in
theorem Encode_none (oa : Option Addr) (cap : Nat) (w : World) :
    Calls Try.prog 10 #[.slice oa 0 cap] w fun e w' => e = .returned (.tuple #[.string ⟨#[]⟩, .int .i64 0]) ∧ Below w.heap.size w w' := by
  go_enter Try.func10, Try.ntmps10
  go_wp2_with fail
  go_loopw [4, 9] (fun s i wr => i = .int .i64 0 ∧ s = .string ⟨#[]⟩ ∧ Below w.heap.size w wr) (fun _ i _ => 0)
  case atStart => exact ⟨rfl, rfl, Below.refl _ _⟩
  case round =>
    obtain ⟨rfl, rfl, hbl⟩ := hrel
    go_wp2_with fail
    go_ret2
    exact ⟨rfl, hbl⟩
theorem Encode_val (l : List Ac) (v : Value) (w : World) (hl : l.length ≤ 140737488351232) (hk : ∀ a ∈ l, a.Kind) (h : SA w v l) :
    Calls Try.prog 10 #[v] w fun e w' => e = .returned (.tuple #[.string (encV l), .int .i64 (encE l)]) ∧ Below w.heap.size w w' := by
  rcases h with ⟨rfl, oa, cap, rfl⟩ | ⟨_, b, off, cap, rfl, _, hx⟩
  · have e : allR [] := fun a ha => by cases ha
    unfold encV encE
    rw [if_pos e, if_pos e]
    exact Encode_none oa cap w
  · exact Encode_some l l.length b off cap w rfl hl hk hx _ _ (Lib.hid rfl) (Lib.hid rfl)
end Go.Proofs.Ytjkiofgllmjkcaa.G
