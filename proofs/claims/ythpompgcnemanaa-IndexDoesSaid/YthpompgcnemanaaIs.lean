/- Sums over what an index holds, in plain Lean. -/
import Derived.Test.YthpompgcnemanaaIu
namespace Go.Proofs.Ythpompgcnemanaa.G
open Go.RowKit Go.Maps
set_option linter.unusedVariables false
set_option linter.unusedSimpArgs false

/-- each entry stands at its place, in one of ten segments of four -/
def GoodI (N : ByteArray → Option Ent) (Q : Plc → Option ByteArray) : Prop := ∀ i e, N i = some e → Q e.at_ = some i ∧ (0 ≤ e.seg ∧ e.seg < 10) ∧ (0 ≤ e.slot ∧ e.slot < 4) ∧ 31 ≤ e.sz ∧ e.sz ≤ 191
theorem GoodI.kill {N : ByteArray → Option Ent} {Q : Plc → Option ByteArray} (h : GoodI N Q) (k : ByteArray) : GoodI (killN N k) Q := by
  intro i e he
  unfold killN at he
  cases hk : N k with
  | none => rw [hk] at he; exact h i e he
  | some s =>
    rw [hk] at he
    simp only at he
    by_cases hl : s.live = true
    · rw [if_pos hl] at he
      by_cases hi : i = k
      · subst hi
        rw [updM_same] at he
        cases he
        exact h i s hk
      · rw [updM_other hi] at he
        exact h i e he
    · rw [if_neg hl] at he; exact h i e he
theorem good_fil {L : List Rec} (hL : L.length ≤ 40) (hs : ∀ r ∈ L, r.id.size ≤ 80 ∧ r.va.size ≤ 80) : GoodI (fil L L.length).1 (fil L L.length).2 := by
  intro i e he
  refine ⟨fil_stand (Nat.le_refl _) he, ?_⟩
  obtain ⟨k, hb, rfl⟩ := (fil_n (L := L) _ (Nat.le_refl _) i).1 e he
  have hk := hb.2.1
  have := hs _ (List.getElem_mem hk)
  show (0 ≤ ((k / 4 : Nat) : Int) ∧ ((k / 4 : Nat) : Int) < 10) ∧ (0 ≤ ((k % 4 : Nat) : Int) ∧ ((k % 4 : Nat) : Int) < 4) ∧ 31 ≤ 31 + (L[k].id.size : Int) + (L[k].va.size : Int) ∧ 31 + (L[k].id.size : Int) + (L[k].va.size : Int) ≤ 191
  omega
section
variable {α : Type} {f g : α → Int}
theorem sum_le : ∀ {l : List α}, (∀ p ∈ l, f p ≤ g p) → (l.map f).sum ≤ (l.map g).sum
  | [], _ => Int.le_refl _
  | p :: l, h => by
    have h1 := h p (List.mem_cons_self ..)
    have h2 := sum_le (l := l) (fun x hx => h x (List.mem_cons_of_mem _ hx))
    simp only [List.map_cons, List.sum_cons]
    omega
theorem sum_add : ∀ (l : List α), (l.map fun p => f p + g p).sum = (l.map f).sum + (l.map g).sum
  | [] => rfl
  | p :: l => by
    have h2 := sum_add l
    simp only [List.map_cons, List.sum_cons]
    omega
theorem sum_mul (c : Int) : ∀ (l : List α), (l.map fun p => c * f p).sum = c * (l.map f).sum
  | [] => by simp
  | p :: l => by
    have h2 := sum_mul c l
    simp only [List.map_cons, List.sum_cons]
    rw [h2, Int.mul_add]
theorem sum_same : ∀ {l : List α}, (∀ p ∈ l, f p = g p) → (l.map f).sum = (l.map g).sum
  | [], _ => rfl
  | p :: l, h => by
    have h1 := h p (List.mem_cons_self ..)
    have h2 := sum_same (l := l) (fun x hx => h x (List.mem_cons_of_mem _ hx))
    simp only [List.map_cons, List.sum_cons]
    omega
theorem sum_bd {B : Int} (hB : 0 ≤ B) : ∀ {l : List α}, (∀ p ∈ l, 0 ≤ f p ∧ f p ≤ B) → 0 ≤ (l.map f).sum ∧ (l.map f).sum ≤ B * l.length
  | [], _ => by simp
  | p :: l, h => by
    have h1 := h p (List.mem_cons_self ..)
    have h2 := sum_bd hB (l := l) (fun x hx => h x (List.mem_cons_of_mem _ hx))
    simp only [List.map_cons, List.sum_cons, List.length_cons]
    have e : B * ((l.length + 1 : Nat) : Int) = B * (l.length : Int) + B := by rw [Int.natCast_add, Int.mul_add]; simp
    omega
end
/-- over the first so many segments -/
def tot (g : Int → ByteArray × Ent → Int) (l : List (ByteArray × Ent)) : Nat → Int
  | 0 => 0
  | k + 1 => tot g l k + (l.map (g (k : Int))).sum
def tot1 (g : Int → ByteArray × Ent → Int) (p : ByteArray × Ent) : Nat → Int
  | 0 => 0
  | k + 1 => tot1 g p k + g (k : Int) p
theorem tot_swap (g : Int → ByteArray × Ent → Int) (l : List (ByteArray × Ent)) : ∀ k, tot g l k = (l.map fun p => tot1 g p k).sum
  | 0 => (sum_zero fun _ _ => rfl).symm
  | k + 1 => by
    show tot g l k + _ = (l.map fun p => tot1 g p k + g (k : Int) p).sum
    rw [sum_add, tot_swap g l k]
theorem tot1_if {g : Int → ByteArray × Ent → Int} {p : ByteArray × Ent} {c : Int} (hg : ∀ sg, g sg p = if p.2.seg = sg then c else 0) (h0 : 0 ≤ p.2.seg) : ∀ k : Nat, tot1 g p k = if p.2.seg < (k : Int) then c else 0
  | 0 => by rw [if_neg (by omega)]; rfl
  | k + 1 => by
    show tot1 g p k + g (k : Int) p = _
    rw [tot1_if hg h0 k, hg]
    by_cases h1 : p.2.seg = (k : Int)
    · rw [if_pos h1, if_neg (by omega), if_pos (by omega)]; omega
    · rw [if_neg h1]
      by_cases h2 : p.2.seg < (k : Int)
      · rw [if_pos h2, if_pos (by omega)]; omega
      · rw [if_neg h2, if_neg (by omega)]; rfl
theorem tot_bd {g : Int → ByteArray × Ent → Int} {B : Int} (hB : 0 ≤ B) {l : List (ByteArray × Ent)} (h : ∀ sg, ∀ p ∈ l, 0 ≤ g sg p ∧ g sg p ≤ B) : ∀ k : Nat, 0 ≤ tot g l k ∧ tot g l k ≤ (k : Int) * (B * l.length)
  | 0 => by simp [tot]
  | k + 1 => by
    have h1 := tot_bd hB h k
    have h2 := sum_bd hB (h (k : Int))
    show 0 ≤ tot g l k + _ ∧ tot g l k + _ ≤ _
    have e : ((k + 1 : Nat) : Int) * (B * l.length) = (k : Int) * (B * l.length) + B * l.length := by rw [Int.natCast_add, Int.add_mul]; simp
    omega
theorem one_at {P : ByteArray × Ent → Prop} [DecidablePred P] : ∀ {l : List (ByteArray × Ent)}, (l.map (·.1)).Nodup → (∀ p ∈ l, ∀ q ∈ l, P p → P q → p.1 = q.1) → (l.map fun p => if P p then (1 : Int) else 0).sum ≤ 1
  | [], _, _ => by simp
  | p :: l, hn, h => by
    rw [List.map_cons, List.nodup_cons] at hn
    have ih := one_at hn.2 (fun a ha b hb => h a (List.mem_cons_of_mem _ ha) b (List.mem_cons_of_mem _ hb))
    simp only [List.map_cons, List.sum_cons]
    by_cases hp : P p
    · rw [if_pos hp, sum_zero (l := l) (fun q hq => if_neg (fun hP => hn.1 (by
        rw [h p (List.mem_cons_self ..) q (List.mem_cons_of_mem _ hq) hp hP]
        exact List.mem_map_of_mem hq)))]
      exact Int.le_refl _
    · rw [if_neg hp]; omega
theorem inA_four {N : ByteArray → Option Ent} {Q : Plc → Option ByteArray} (hG : GoodI N Q) {l : List (ByteArray × Ent)} (hE : En N l) (sg : Int) : (l.map (inA sg)).sum ≤ 4 := by
  have hN : ∀ p ∈ l, N p.1 = some p.2 := fun p hp => (hE.2 p.1 p.2).1 hp
  have one : ∀ x : Plc, (l.map fun p => if p.2.at_ = x then (1 : Int) else 0).sum ≤ 1 := fun x => one_at hE.1 (fun p hp q hq h1 h2 => by
    have a := (hG _ _ (hN p hp)).1
    have b := (hG _ _ (hN q hq)).1
    rw [h1] at a
    rw [h2, a] at b
    exact Option.some.inj b)
  have e : (l.map (inA sg)).sum = (l.map fun p => (if p.2.at_ = (sg, (0 : Int)) then (1 : Int) else 0) + ((if p.2.at_ = (sg, (1 : Int)) then (1 : Int) else 0) + ((if p.2.at_ = (sg, (2 : Int)) then (1 : Int) else 0) + (if p.2.at_ = (sg, (3 : Int)) then (1 : Int) else 0)))).sum := sum_same fun p hp => by
    have hs := (hG _ _ (hN p hp)).2.2.1
    have at_iff : ∀ k : Int, p.2.at_ = (sg, k) ↔ p.2.seg = sg ∧ p.2.slot = k := fun k => by
      show (p.2.seg, p.2.slot) = (sg, k) ↔ _
      rw [Prod.mk.injEq]
    simp only [ite_iff (at_iff _)]
    unfold inA
    by_cases h : p.2.seg = sg
    · rw [if_pos h]
      rcases (by omega : p.2.slot = 0 ∨ p.2.slot = 1 ∨ p.2.slot = 2 ∨ p.2.slot = 3) with h2 | h2 | h2 | h2 <;> simp [h, h2]
    · rw [if_neg h]; simp [h]
  rw [e, sum_add, sum_add, sum_add]
  have h0 := one (sg, 0)
  have h1 := one (sg, 1)
  have h2 := one (sg, 2)
  have h3 := one (sg, 3)
  omega
theorem in_law {N : ByteArray → Option Ent} {Q : Plc → Option ByteArray} (hG : GoodI N Q) {l : List (ByteArray × Ent)} (hE : En N l) (sg : Int) : (l.map (inB sg)).sum ≤ (l.map (inA sg)).sum ∧ (l.map (inA sg)).sum ≤ 4 ∧ 0 ≤ (l.map (inB sg)).sum ∧ 31 * (l.map (inB sg)).sum ≤ (l.map (inC sg)).sum ∧ (l.map (inC sg)).sum ≤ 191 * (l.map (inB sg)).sum := by
  have hN : ∀ p ∈ l, N p.1 = some p.2 := fun p hp => (hE.2 p.1 p.2).1 hp
  refine ⟨sum_le fun p _ => ?_, inA_four hG hE sg, (sum_bd (B := 1) (by decide) fun p _ => inB_b sg p).1, ?_, ?_⟩
  · unfold inA inB
    by_cases h : p.2.seg = sg
    · rw [if_pos h]; split <;> omega
    · rw [if_neg h, if_neg (fun hh => h hh.1)]; exact Int.le_refl _
  · rw [← sum_mul]
    refine sum_le fun p hp => ?_
    have := (hG _ _ (hN p hp)).2.2.2
    unfold inB inC
    split <;> omega
  · rw [← sum_mul]
    refine sum_le fun p hp => ?_
    have := (hG _ _ (hN p hp)).2.2.2
    unfold inB inC
    split <;> omega
theorem keys_en {N : ByteArray → Option Ent} {ks : List ByteArray} (h : KeysL N ks) : En N (ks.map fun i => (i, (N i).getD Ent.zero)) := by
  have nd : ks.Nodup := h.sorted.imp fun {a b} h e => by subst e; exact List.lt_irrefl _ h
  refine ⟨?_, fun x s => ?_⟩
  · rw [List.map_map]
    show (ks.map fun i => i).Nodup
    rw [List.map_id']
    exact nd
  · constructor
    · intro hm
      obtain ⟨i, hi, he⟩ := List.mem_map.1 hm
      cases he
      have := (h.mem x).1 hi
      cases hx : N x with
      | none => rw [hx] at this; cases this
      | some e => rfl
    · intro hx
      refine List.mem_map.2 ⟨x, (h.mem x).2 (by rw [hx]; rfl), ?_⟩
      rw [hx]; rfl
/-- the sizes of these -/
def szs (N : ByteArray → Option Ent) (K : List ByteArray) : Int := (K.map fun i => ((N i).getD Ent.zero).sz).sum
theorem live_len (N : ByteArray → Option Ent) : ∀ ks : List ByteArray, ((ks.map fun i => (i, (N i).getD Ent.zero)).map fun p : ByteArray × Ent => if p.2.live = true then (1 : Int) else 0).sum = ((ks.filter (livB N)).length : Int)
  | [] => rfl
  | i :: ks => by
    have ih := live_len N ks
    simp only [List.map_cons, List.sum_cons]
    rw [ih]
    by_cases h : ((N i).getD Ent.zero).live = true
    · rw [if_pos h, List.filter_cons_of_pos (show livB N i = true from h), List.length_cons]; omega
    · rw [if_neg h, List.filter_cons_of_neg (show ¬ livB N i = true from h)]; omega
theorem live_szs (N : ByteArray → Option Ent) : ∀ ks : List ByteArray, ((ks.map fun i => (i, (N i).getD Ent.zero)).map fun p : ByteArray × Ent => if p.2.live = true then p.2.sz else 0).sum = szs N (ks.filter (livB N))
  | [] => rfl
  | i :: ks => by
    have ih := live_szs N ks
    simp only [List.map_cons, List.sum_cons]
    rw [ih]
    by_cases h : ((N i).getD Ent.zero).live = true
    · rw [if_pos h, List.filter_cons_of_pos (show livB N i = true from h)]; simp [szs]
    · rw [if_neg h, List.filter_cons_of_neg (show ¬ livB N i = true from h)]; omega
theorem tot_keys {N : ByteArray → Option Ent} {Q : Plc → Option ByteArray} (hG : GoodI N Q) {l : List (ByteArray × Ent)} (hE : En N l) {ks : List ByteArray} (h : KeysL N ks) : tot inB l 10 = ((ks.filter (livB N)).length : Int) ∧ tot inC l 10 = szs N (ks.filter (livB N)) := by
  have hN : ∀ p ∈ l, N p.1 = some p.2 := fun p hp => (hE.2 p.1 p.2).1 hp
  have hp := hE.perm (keys_en h)
  constructor
  · rw [tot_swap, ← live_len, ← sum_perm hp]
    refine sum_same fun p hm => ?_
    have hs := (hG _ _ (hN p hm)).2.1
    rw [tot1_if (c := if p.2.live = true then 1 else 0) (fun sg => by
      unfold inB
      by_cases h1 : p.2.seg = sg <;> by_cases h2 : p.2.live = true <;> simp [h1, h2]) hs.1 10]
    exact if_pos hs.2
  · rw [tot_swap, ← live_szs, ← sum_perm hp]
    refine sum_same fun p hm => ?_
    have hs := (hG _ _ (hN p hm)).2.1
    rw [tot1_if (c := if p.2.live = true then p.2.sz else 0) (fun sg => by
      unfold inC
      by_cases h1 : p.2.seg = sg <;> by_cases h2 : p.2.live = true <;> simp [h1, h2]) hs.1 10]
    exact if_pos hs.2
theorem szs_take (N : ByteArray → Option Ent) {K : List ByteArray} {j : Nat} (h : j < K.length) : szs N (K.take (j + 1)) = szs N (K.take j) + ((N K[j]).getD Ent.zero).sz := by
  unfold szs
  rw [List.take_succ_eq_append_getElem h, List.map_append, List.sum_append]
  simp
theorem szs_bd {N : ByteArray → Option Ent} {Q : Plc → Option ByteArray} (hG : GoodI N Q) {K : List ByteArray} : 0 ≤ szs N K ∧ szs N K ≤ 191 * K.length := by
  refine sum_bd (B := 191) (by decide) fun i _ => ?_
  cases hi : N i with
  | none => show 0 ≤ Ent.zero.sz ∧ Ent.zero.sz ≤ 191; decide
  | some e => have := (hG _ _ hi).2.2.2; show 0 ≤ e.sz ∧ e.sz ≤ 191; omega
/-- one of those that live -/
theorem liv_at {N : ByteArray → Option Ent} {ks : List ByteArray} (h : KeysL N ks) {k : ByteArray} (hk : k ∈ ks.filter (livB N)) : ∃ e, N k = some e ∧ e.live = true := by
  obtain ⟨h1, h2⟩ := List.mem_filter.1 hk
  cases hn : N k with
  | none => have := (h.mem k).1 h1; rw [hn] at this; cases this
  | some e => unfold livB at h2; rw [hn] at h2; exact ⟨e, rfl, h2⟩
theorem liv_lt {N : ByteArray → Option Ent} {ks : List ByteArray} (h : KeysL N ks) {i j : Nat} (hi : i < (ks.filter (livB N)).length) (hj : j < (ks.filter (livB N)).length) (hij : i < j) : bl8 (ks.filter (livB N))[i] < bl8 (ks.filter (livB N))[j] :=
  List.pairwise_iff_getElem.1 (h.sorted.filter _) i j hi hj hij
end Go.Proofs.Ythpompgcnemanaa.G
