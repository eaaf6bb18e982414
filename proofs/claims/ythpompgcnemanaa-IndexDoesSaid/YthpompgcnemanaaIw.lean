/- Lists of ids; what lists say of the index' maps; the fixed calls. -/
import Derived.Test.YthpompgcnemanaaIg
import Derived.Test.YthpompgcnemanaaIk
import Derived.Test.YthpompgcnemanaaGFast
import Derived.BigQuiet
namespace Go.Proofs.Ythpompgcnemanaa.G
open Go.RowKit Go.Maps Go.Proofs Go.Proofs.Ythpompgcnemanaa.WordPlain Go.Proofs.Ythpompgcnemanaa.Loose
set_option linter.unusedVariables false
set_option linter.unusedSimpArgs false

theorem wrI (j : Nat) (h : j < 4000000) : wrap64 ((j : Int) + 1) = ((j + 1 : Nat) : Int) := IntWalk.wrap64_in _ (by omega)
set_option maxRecDepth 100000 in
set_option maxHeartbeats 2000000 in
theorem Words_val (w : World) (a b : Value) (l m : List ByteArray) (ha : LR 1 encK w a l) (hb : LR 1 encK w b m) (hl : l.length ≤ 1000000) (hm : m.length ≤ 1000000) :
    Calls Try.prog 33 #[a, b] w fun e w' => e = .returned (.bool (decide (l = m))) ∧ Below w.heap.size w w' := by
  obtain ⟨oa, ca, rfl, _, hx⟩ := ha
  obtain ⟨ob, cb, rfl, _, hy⟩ := hb
  obtain ⟨p, hp⟩ : ∃ p, p = l.length := ⟨_, rfl⟩
  obtain ⟨q, hq⟩ : ∃ q, q = m.length := ⟨_, rfl⟩
  rw [← hp] at hl ⊢
  rw [← hq] at hm ⊢
  by_cases hpq : p = q
  rotate_left
  · have hz : decide (l = m) = false := decide_eq_false (fun e => hpq (by rw [hp, hq, e]))
    rw [hz]
    have g1 : ((p : Int) != (q : Int)) = true := bne_iff_ne.2 (by omega)
    have g2 : ((p : Int) = (q : Int)) = False := eq_false (by omega)
    have g3 : (p = q) = False := eq_false hpq
    clear hx hy hz hpq hp hq
    go_enter Try.func33, Try.ntmps33
    go_wp2_with fail
    go_ret
    exact ⟨rfl, Below.refl _ _⟩
  · subst hpq
    have HX := Lib.hid hx
    have HY := Lib.hid hy
    have HP := Lib.hid hp
    have HQ := Lib.hid hq
    obtain ⟨zz, hzz⟩ : ∃ z, z = decide (l = m) := ⟨_, rfl⟩
    rw [← hzz]
    have HZ := Lib.hid hzz
    clear hx hy hp hq hzz
    go_enter Try.func33, Try.ntmps33
    go_wp2_with fail
    go_loopw [5] (fun i wr => ∃ j : Nat, j ≤ p ∧ i = .int .i64 j ∧ (∀ k (h1 : k < l.length) (h2 : k < m.length), k < j → l[k] = m[k]) ∧ Below w.heap.size w wr) (fun i _ => p - (intOf i).toNat)
    case atStart => exact ⟨0, by omega, rfl, fun _ _ _ h => absurd h (Nat.not_lt_zero _), Below.refl _ _⟩
    case round =>
      obtain ⟨j, hj, rfl, hall, hbl⟩ := hrel
      have HA := Lib.hid hall
      have HB := Lib.hid hbl
      clear hall hbl
      by_cases hlt : j < p
      · have hjl : j < l.length := by have := HP.out; omega
        have hjm : j < m.length := by have := HQ.out; omega
        have hkn : (j : Int) < (p : Int) := by omega
        have WJ := Lib.hid (wrI j (by omega))
        obtain ⟨b1, o1, e1, h1⟩ := HX.out j hjl
        obtain ⟨b2, o2, e2, h2⟩ := HY.out j hjm
        have c1 := h1 0 (.string l[j]) rfl
        have c2 := h2 0 (.string m[j]) rfl
        rw [Nat.mul_one, Nat.add_zero] at c1 c2
        have x1 := cell_regrown ((HB.out.cell (p := ⟨b1, o1 + j, none⟩) (lt_of_cellR c1)).trans c1)
        have x2 := cell_regrown ((HB.out.cell (p := ⟨b2, o2 + j, none⟩) (lt_of_cellR c2)).trans c2)
        subst e1 e2
        obtain ⟨s, hs⟩ : ∃ s, s = l[j] := ⟨_, rfl⟩
        obtain ⟨t, ht⟩ : ∃ t, t = m[j] := ⟨_, rfl⟩
        rw [← hs] at x1
        rw [← ht] at x2
        have HS := Lib.hid hs
        have HT := Lib.hid ht
        clear c1 c2 h1 h2 hs ht
        by_cases hst : s = t
        · have HA2 : Hid (∀ k (h1 : k < l.length) (h2 : k < m.length), k < j + 1 → l[k] = m[k]) := Lib.hid (fun k h1 h2 h3 => by
            rcases (by omega : k < j ∨ k = j) with h | h
            · exact HA.out k h1 h2 h
            · subst h; rw [← HS.out, ← HT.out]; exact hst)
          subst hst
          have q0 : (s.toList == s.toList) = true := beq_self_eq_true _
          have q1 : (s.toList != s.toList) = false := by simp
          go_wp2_with fail
          refine Loose.wp_region_quiet_fast (by kernel_rfl) (by kernel_rfl) ?_
          (try simp only [List.append_eq, List.cons_append, List.nil_append])
          repeat (go_big_quiet_step (fail))
          refine wpQuiet_nil ?_
          intro _ hw'
          obtain ⟨⟨dq, osq⟩, hw''⟩ := hw'
          subst hw''
          clear x1 x2 q0 q1
          have bQ := below_regrown wr dq osq
          go_wp2_with fail
          go_roundw
          case rel => exact ⟨j + 1, by omega, by first | rfl | (rw [WJ.out]) | go_num, HA2.out, stepR HB.out bQ⟩
          case measure => (try rw [WJ.out]); simp only [intOf, Int.toNat_natCast]; omega
        · have HZ0 : Hid (zz = false) := Lib.hid (by rw [HZ.out]; exact decide_eq_false (fun e => hst (by rw [HS.out, HT.out]; simp only [e])))
          have q0 := str_ne hst
          have q1 : (s.toList == t.toList) = false := beq_eq_false_iff_ne.2 (fun h => by rw [h] at q0; simp at q0)
          have q2 : (s = t) = False := eq_false hst
          have q3 : (s.toList != t.toList) = true := by simp only [bne, q1, Bool.not_false]
          clear hst
          go_wp2_with fail
          refine Loose.wp_region_quiet_fast (by kernel_rfl) (by kernel_rfl) ?_
          (try simp only [List.append_eq, List.cons_append, List.nil_append])
          repeat (go_big_quiet_step (fail))
          refine wpQuiet_nil ?_
          intro _ hw'
          obtain ⟨⟨dq, osq⟩, hw''⟩ := hw'
          subst hw''
          clear x1 x2 q0 q1 q2 q3
          have bQ := below_regrown wr dq osq
          go_wp2_with fail
          go_ret
          exact ⟨by rw [HZ0.out]; rfl, stepR HB.out bQ⟩
      · obtain rfl : j = p := by omega
        have HZ0 : Hid (zz = true) := Lib.hid (by
          rw [HZ.out]
          exact decide_eq_true (List.ext_getElem (by rw [← HP.out, ← HQ.out]) fun k h1 h2 => HA.out k h1 h2 (by have := HP.out; omega)))
        clear hlt
        go_wp2_with fail
        go_ret
        exact ⟨by rw [HZ0.out]; rfl, HB.out⟩
section
variable {κ ε : Type} {f f' : κ → Option ε} {l : List (κ × ε)}
theorem En.put [DecidableEq κ] (h : En f l) (x : κ) (s : ε) : En (updM f x (some s)) ((x, s) :: l.filter (fun p => !decide (p.1 = x))) := by
  constructor
  · rw [List.map_cons, List.nodup_cons]
    constructor
    · intro hm
      obtain ⟨p, hp, he⟩ := List.mem_map.1 hm
      have := (List.mem_filter.1 hp).2
      simp [he] at this
    · exact h.1.sublist ((List.filter_sublist).map _)
  · intro y t
    rw [List.mem_cons, List.mem_filter]
    by_cases e : y = x
    · subst e
      rw [updM_same]
      constructor
      · rintro (h1 | h1)
        · cases h1; rfl
        · simp at h1
      · intro h1
        rw [← Option.some.inj h1]; exact Or.inl rfl
    · rw [updM_other e, h.2 y t]
      constructor
      · rintro (h1 | h1)
        · cases h1; exact absurd rfl e
        · exact h1.1
      · exact fun h1 => Or.inr ⟨h1, by simp [e]⟩
theorem En.filter (h : En f l) (P : κ × ε → Bool) (h' : ∀ x, f' x = match f x with | some s => if P (x, s) = true then some s else none | none => none) : En f' (l.filter P) := by
  constructor
  · exact h.1.sublist ((List.filter_sublist).map _)
  · intro y t
    rw [List.mem_filter, h.2 y t, h' y]
    cases hf : f y with
    | none => simp
    | some s =>
      simp only [Option.some.injEq]
      constructor
      · rintro ⟨rfl, h2⟩; rw [if_pos h2]
      · intro h2
        split at h2
        · rename_i hp; cases h2; exact ⟨rfl, hp⟩
        · cases h2
theorem En.mem (h : En f l) (k : κ) : (f k).isSome = true ↔ k ∈ l.map (·.1) := by
  rw [Option.isSome_iff_exists, List.mem_map]
  constructor
  · rintro ⟨s, hs⟩; exact ⟨(k, s), (h.2 k s).2 hs, rfl⟩
  · rintro ⟨⟨k', s⟩, hm, rfl⟩; exact ⟨s, (h.2 k' s).1 hm⟩
theorem En.all (h : En f l) {P : κ × ε → Prop} (hl : ∀ p ∈ l, P p) (x : κ) (s : ε) (hx : f x = some s) : P (x, s) := hl _ ((h.2 x s).2 hx)
end
theorem En.goneQ {Q : Plc → Option ByteArray} {l : List (Plc × ByteArray)} (h : En Q l) (sg : Int) : En (goneQ1 Q sg) (l.filter fun p => !decide (p.1.1 = sg)) := h.filter _ fun x => by
  unfold goneQ1
  cases hq : Q x with
  | none => simp
  | some s => by_cases e : x.1 = sg <;> simp [e]
theorem En.goneN {N : ByteArray → Option Ent} {Q : Plc → Option ByteArray} {l : List (ByteArray × Ent)} (h : En N l) (sg : Int) : En (goneN1 N Q sg) (l.filter fun p => !decide (p.2.seg = sg ∧ Q p.2.at_ = some p.1)) := h.filter _ fun x => by
  unfold goneN1
  cases hq : N x with
  | none => simp
  | some s => by_cases e : s.seg = sg ∧ Q s.at_ = some x <;> simp [e]
theorem addN_yes {N : ByteArray → Option Ent} {Q : Plc → Option ByteArray} {r : Rec} {p : Plc} (h1 : takes Q r p) (h2 : news N r) : addN N Q r p = updM N r.id (some (r.ent p)) := if_pos ⟨h1, h2⟩
theorem addN_no {N : ByteArray → Option Ent} {Q : Plc → Option ByteArray} {r : Rec} {p : Plc} (h1 : ¬ (takes Q r p ∧ news N r)) : addN N Q r p = N := if_neg h1
theorem addQ_yes {Q : Plc → Option ByteArray} {r : Rec} {p : Plc} (h1 : takes Q r p) : addQ Q r p = updM Q p (some r.id) := if_pos h1
theorem addQ_no {Q : Plc → Option ByteArray} {r : Rec} {p : Plc} (h1 : ¬ takes Q r p) : addQ Q r p = Q := if_neg h1
def fN0 : ByteArray → Option Ent := fun _ => none
def fQ0 : Plc → Option ByteArray := fun _ => none
def fr1 : Rec := ⟨0, 0, 1, 1, 0, ⟨#[97]⟩, ⟨#[118]⟩⟩
def fN1 : ByteArray → Option Ent := addN fN0 fQ0 fr1 (0, 0)
def fQ1 : Plc → Option ByteArray := addQ fQ0 fr1 (0, 0)
theorem fB1 : addB fN0 fQ0 fr1 (0, 0) = true := by decide
def fr2 : Rec := ⟨0, 0, 1, 2, 0, ⟨#[97]⟩, ⟨#[]⟩⟩
def fN2 : ByteArray → Option Ent := addN fN1 fQ1 fr2 (0, 1)
def fQ2 : Plc → Option ByteArray := addQ fQ1 fr2 (0, 1)
theorem fB2 : addB fN1 fQ1 fr2 (0, 1) = true := by decide
def fr3 : Rec := ⟨0, 0, 1, 1, 0, ⟨#[97]⟩, ⟨#[]⟩⟩
def fN3 : ByteArray → Option Ent := addN fN2 fQ2 fr3 (1, 0)
def fQ3 : Plc → Option ByteArray := addQ fQ2 fr3 (1, 0)
theorem fB3 : addB fN2 fQ2 fr3 (1, 0) = false := by decide
def fr4 : Rec := ⟨0, 0, 1, 9, 0, ⟨#[98]⟩, ⟨#[]⟩⟩
def fN4 : ByteArray → Option Ent := addN fN3 fQ3 fr4 (1, 0)
def fQ4 : Plc → Option ByteArray := addQ fQ3 fr4 (1, 0)
theorem fB4 : addB fN3 fQ3 fr4 (1, 0) = false := by decide
def fr5 : Rec := ⟨0, 0, 3, 0, 0, ⟨#[]⟩, ⟨#[]⟩⟩
def fN5 : ByteArray → Option Ent := addN fN4 fQ4 fr5 (2, 0)
def fQ5 : Plc → Option ByteArray := addQ fQ4 fr5 (2, 0)
theorem fB5 : addB fN4 fQ4 fr5 (2, 0) = false := by decide
def fr6 : Rec := ⟨0, 0, 1, 7, 5, ⟨#[98]⟩, ⟨#[120, 121]⟩⟩
def fN6 : ByteArray → Option Ent := addN fN5 fQ5 fr6 (1, 1)
def fQ6 : Plc → Option ByteArray := addQ fQ5 fr6 (1, 1)
theorem fB6 : addB fN5 fQ5 fr6 (1, 1) = true := by decide
theorem fN_is : fN6 = updM (updM (updM fN0 ⟨#[97]⟩ (some (fr1.ent (0, 0)))) ⟨#[97]⟩ (some (fr2.ent (0, 1)))) ⟨#[98]⟩ (some (fr6.ent (1, 1))) := by
  have e1 : fN1 = updM fN0 ⟨#[97]⟩ (some (fr1.ent (0, 0))) := addN_yes (N := fN0) (Q := fQ0) (r := fr1) (p := (0, 0)) (by decide) (by decide)
  have e2 : fN2 = updM fN1 ⟨#[97]⟩ (some (fr2.ent (0, 1))) := addN_yes (N := fN1) (Q := fQ1) (r := fr2) (p := (0, 1)) (by decide) (by decide)
  have e3 : fN3 = fN2 := addN_no (N := fN2) (Q := fQ2) (r := fr3) (p := (1, 0)) (by decide)
  have e4 : fN4 = fN3 := addN_no (N := fN3) (Q := fQ3) (r := fr4) (p := (1, 0)) (by decide)
  have e5 : fN5 = fN4 := addN_no (N := fN4) (Q := fQ4) (r := fr5) (p := (2, 0)) (by decide)
  have e6 : fN6 = updM fN5 ⟨#[98]⟩ (some (fr6.ent (1, 1))) := addN_yes (N := fN5) (Q := fQ5) (r := fr6) (p := (1, 1)) (by decide) (by decide)
  rw [e6, e5, e4, e3, e2, e1]
theorem fQ_is : fQ6 = updM (updM (updM (updM fQ0 (0, 0) (some ⟨#[97]⟩)) (0, 1) (some ⟨#[97]⟩)) (1, 0) (some ⟨#[97]⟩)) (1, 1) (some ⟨#[98]⟩) := by
  have e1 : fQ1 = updM fQ0 (0, 0) (some ⟨#[97]⟩) := addQ_yes (Q := fQ0) (r := fr1) (p := (0, 0)) (by decide)
  have e2 : fQ2 = updM fQ1 (0, 1) (some ⟨#[97]⟩) := addQ_yes (Q := fQ1) (r := fr2) (p := (0, 1)) (by decide)
  have e3 : fQ3 = updM fQ2 (1, 0) (some ⟨#[97]⟩) := addQ_yes (Q := fQ2) (r := fr3) (p := (1, 0)) (by decide)
  have e4 : fQ4 = fQ3 := addQ_no (Q := fQ3) (r := fr4) (p := (1, 0)) (by decide)
  have e5 : fQ5 = fQ4 := addQ_no (Q := fQ4) (r := fr5) (p := (2, 0)) (by decide)
  have e6 : fQ6 = updM fQ5 (1, 1) (some ⟨#[98]⟩) := addQ_yes (Q := fQ5) (r := fr6) (p := (1, 1)) (by decide)
  rw [e6, e5, e4, e3, e2, e1]
def fNl : List (ByteArray × Ent) := [(⟨#[98]⟩, ⟨7, 5, true, 34, 1, 1⟩), (⟨#[97]⟩, ⟨2, 0, true, 32, 0, 1⟩)]
def fQl : List (Plc × ByteArray) := [((1, 1), ⟨#[98]⟩), ((1, 0), ⟨#[97]⟩), ((0, 1), ⟨#[97]⟩), ((0, 0), ⟨#[97]⟩)]
theorem fN_en : En fN6 fNl := by
  rw [fN_is]
  have h := ((En.nil.put (⟨#[97]⟩ : ByteArray) (fr1.ent (0, 0))).put ⟨#[97]⟩ (fr2.ent (0, 1))).put ⟨#[98]⟩ (fr6.ent (1, 1))
  have e : ((⟨#[98]⟩, fr6.ent (1, 1)) :: List.filter (fun p => !decide (p.1 = (⟨#[98]⟩ : ByteArray))) ((⟨#[97]⟩, fr2.ent (0, 1)) :: List.filter (fun p => !decide (p.1 = (⟨#[97]⟩ : ByteArray))) ((⟨#[97]⟩, fr1.ent (0, 0)) :: List.filter (fun p => !decide (p.1 = (⟨#[97]⟩ : ByteArray))) []))) = fNl := by decide
  rw [e] at h
  exact h
theorem fQ_en : En fQ6 fQl := by
  rw [fQ_is]
  have h := (((En.nil.put ((0, 0) : Plc) (⟨#[97]⟩ : ByteArray)).put (0, 1) ⟨#[97]⟩).put (1, 0) ⟨#[97]⟩).put (1, 1) ⟨#[98]⟩
  have e : (((1, 1) : Plc), (⟨#[98]⟩ : ByteArray)) :: List.filter (fun p => !decide (p.1 = ((1, 1) : Plc))) ((((1, 0) : Plc), (⟨#[97]⟩ : ByteArray)) :: List.filter (fun p => !decide (p.1 = ((1, 0) : Plc))) ((((0, 1) : Plc), (⟨#[97]⟩ : ByteArray)) :: List.filter (fun p => !decide (p.1 = ((0, 1) : Plc))) ((((0, 0) : Plc), (⟨#[97]⟩ : ByteArray)) :: List.filter (fun p => !decide (p.1 = ((0, 0) : Plc))) []))) = fQl := by decide
  rw [e] at h
  exact h
end Go.Proofs.Ythpompgcnemanaa.G
