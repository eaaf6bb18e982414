/- The document's reader, in plain Lean: what each step takes, and that it says what the bytes say. -/
import Derived.Test.YtjkiofgllmjkcaaS7
namespace Go.Proofs.Ytjkiofgllmjkcaa.G
open Go.RowKit Go.Proofs.Ytjkiofgllmjkcaa.WordPlain
set_option linter.unusedVariables false
set_option linter.unusedSimpArgs false

/-- a reader's place, and its first error -/
structure Rst where
  p : Nat
  e : Int
variable (s : ByteArray)
/-- behind so many bytes -/
def tk (q : Rst) (n : Nat) : Rst := if q.e = 0 then (if q.p + n ≤ s.size then ⟨q.p + n, 0⟩ else ⟨q.p, 6⟩) else q
/-- the bytes -/
def tb (q : Rst) (n : Nat) : ByteArray := if q.e = 0 ∧ q.p + n ≤ s.size then s.extract q.p (q.p + n) else ⟨#[]⟩
def nm (q : Rst) (n : Nat) : Nat := wget (tb s q n)
/-- behind a byte that may be at most another one -/
def mo (q : Rst) (m : Nat) : Rst := if (tk s q 1).e = 0 ∧ m < nm s q 1 then ⟨(tk s q 1).p, 5⟩ else tk s q 1
/-- truths -/
def bo : Nat → Rst → List Bool → Rst × List Bool
  | 0, q, K => (q, K)
  | c + 1, q, K => if q.e = 0 then bo c (mo s q 1) (K ++ [nm s q 1 == 1]) else (q, K)
def oneA (q : Rst) : Ac × Rst :=
  let q1 := mo s q 5
  let k := nm s q 1
  if q1.e ≠ 0 then ({ Ac.zero with kind := k }, q1)
  else if k = 0 then
    let q2 := mo s q1 255
    let q3 := mo s q2 255
    let q4 := tk s q3 (nm s q2 1)
    let q5 := mo s q4 255
    let q6 := tk s q5 (nm s q4 1)
    let q7 := tk s q6 8
    let q8 := mo s q7 255
    ({ Ac.zero with rk := nm s q1 1, id := tb s q3 (nm s q2 1), va := tb s q5 (nm s q4 1), ttl := nm s q6 8, pick := nm s q7 1 }, q8)
  else if k = 1 then ({ Ac.zero with kind := 1, n := nm s q1 8 }, tk s q1 8)
  else if k = 2 then ({ Ac.zero with kind := 2, n := nm s q1 1 }, tk s q1 1)
  else if k = 4 then ({ Ac.zero with kind := 4, n := nm s q1 2 }, tk s q1 2)
  else if k = 5 then
    let q2 := mo s q1 255
    let b := bo s (nm s q1 1) q2 []
    let q3 := tk s b.1 2
    let q4 := mo s q3 128
    let q5 := tk s q4 8
    ({ Ac.zero with kind := 5, n := nm s q4 8, keep := b.2, torn := nm s b.1 2, pl := nm s q3 1 }, q5)
  else ({ Ac.zero with kind := k }, q1)

/-! ### what the steps say -/
theorem tk_bad (q : Rst) (n : Nat) (h : q.e ≠ 0) : tk s q n = q := by unfold tk; rw [if_neg h]
theorem mo_bad (q : Rst) (m : Nat) (h : q.e ≠ 0) : mo s q m = q := by unfold mo; rw [tk_bad s q 1 h, if_neg (fun x => h x.1)]
theorem bo_bad (c : Nat) (q : Rst) (K : List Bool) (h : q.e ≠ 0) : bo s c q K = (q, K) := by cases c <;> unfold bo <;> simp [h]
theorem tk_le (q : Rst) (n : Nat) (h : q.p ≤ s.size) : (tk s q n).p ≤ s.size := by
  unfold tk; split
  · split
    · assumption
    · exact h
  · exact h
theorem mo_p (q : Rst) (m : Nat) : (mo s q m).p = (tk s q 1).p := by unfold mo; split <;> rfl
theorem mo_le (q : Rst) (m : Nat) (h : q.p ≤ s.size) : (mo s q m).p ≤ s.size := by rw [mo_p]; exact tk_le s q 1 h
theorem bo_le : ∀ (c : Nat) (q : Rst) (K : List Bool), q.p ≤ s.size → (bo s c q K).1.p ≤ s.size
  | 0, q, K, h => h
  | c + 1, q, K, h => by
    unfold bo
    split
    · exact bo_le c _ _ (mo_le s q 1 h)
    · exact h
/-- the reader stands ahead of these bytes, without an error -/
def Sim (q : Rst) (L : List UInt8) : Prop := q.e = 0 ∧ q.p ≤ s.size ∧ L = s.data.toList.drop q.p
theorem ext_list (a b : Nat) (h : b ≤ s.size) : (s.extract a b).data.toList = (s.data.toList.drop a).take (b - a) := by
  rw [ByteArray.data_extract, Array.toList_extract]
theorem sim_len {q : Rst} {L : List UInt8} (h : Sim s q L) : L.length = s.size - q.p := by rw [h.2.2, List.length_drop]; rfl
theorem tk_sim {q : Rst} {L : List UInt8} (n : Nat) (h : Sim s q L) :
    (n ≤ L.length ∧ (tb s q n).data.toList = L.take n ∧ Sim s (tk s q n) (L.drop n)) ∨ (L.length < n ∧ (tk s q n).e = 6) := by
  have hl := sim_len s h
  obtain ⟨h1, h2, h3⟩ := h
  by_cases hn : q.p + n ≤ s.size
  · left
    refine ⟨by omega, ?_, ?_⟩
    · unfold tb
      rw [if_pos ⟨h1, hn⟩, ext_list s _ _ hn, h3, Nat.add_sub_cancel_left]
    · unfold tk
      rw [if_pos h1, if_pos hn]
      exact ⟨rfl, hn, by rw [h3, List.drop_drop]⟩
  · right
    refine ⟨by omega, ?_⟩
    unfold tk
    rw [if_pos h1, if_neg hn]
theorem num_sim {q : Rst} {L : List UInt8} (n : Nat) (hn : n ≤ 8) (h : Sim s q L) :
    (∃ x M, rdNum n L = .ok (x, M) ∧ nm s q n = x ∧ Sim s (tk s q n) M) ∨ (rdNum n L = .error 6 ∧ (tk s q n).e = 6) := by
  unfold rdNum
  rcases tk_sim s n h with ⟨h1, h2, h3⟩ | ⟨h1, h2⟩
  · left
    refine ⟨_, _, by rw [if_pos h1], ?_, h3⟩
    unfold nm wget
    rw [h2, List.take_take, Nat.min_eq_right hn]
  · right
    exact ⟨by rw [if_neg (by omega)], h2⟩
theorem num1_lt {L M : List UInt8} {x : Nat} (h : rdNum 1 L = .ok (x, M)) : x < 256 := by
  unfold rdNum at h
  split at h
  · rename_i hl
    injection h with h
    injection h with h _
    subst h
    have := wgl_lt (L.take 1)
    rw [List.length_take, Nat.min_eq_left hl] at this
    simpa using this
  · cases h
theorem mo_sim {q : Rst} {L : List UInt8} (m : Nat) (h : Sim s q L) :
    (∃ x M, rdNum 1 L = .ok (x, M) ∧ nm s q 1 = x ∧ ((m < x ∧ (mo s q m).e = 5) ∨ (x ≤ m ∧ Sim s (mo s q m) M))) ∨ (rdNum 1 L = .error 6 ∧ (mo s q m).e = 6) := by
  rcases num_sim s 1 (by decide) h with ⟨x, M, h1, h2, h3⟩ | ⟨h1, h2⟩
  · refine Or.inl ⟨x, M, h1, h2, ?_⟩
    by_cases hx : m < x
    · exact Or.inl ⟨hx, by unfold mo; rw [if_pos ⟨h3.1, by omega⟩]⟩
    · refine Or.inr ⟨by omega, ?_⟩
      unfold mo
      rw [if_neg (by omega)]
      exact h3
  · refine Or.inr ⟨h1, ?_⟩
    unfold mo
    rw [if_neg (by rw [h2]; simp), h2]
theorem mo255 {q : Rst} {L : List UInt8} (h : Sim s q L) :
    (∃ x M, rdNum 1 L = .ok (x, M) ∧ nm s q 1 = x ∧ Sim s (mo s q 255) M) ∨ (rdNum 1 L = .error 6 ∧ (mo s q 255).e = 6) := by
  rcases mo_sim s 255 h with ⟨x, M, h1, h2, ⟨h3, _⟩ | ⟨_, h3⟩⟩ | h1
  · exact absurd (num1_lt h1) (by omega)
  · exact Or.inl ⟨x, M, h1, h2, h3⟩
  · exact Or.inr h1
theorem text_sim {q : Rst} {L : List UInt8} (h : Sim s q L) :
    (∃ t M, rdText L = .ok (t, M) ∧ tb s (mo s q 255) (nm s q 1) = t ∧ Sim s (tk s (mo s q 255) (nm s q 1)) M) ∨ (rdText L = .error 6 ∧ (tk s (mo s q 255) (nm s q 1)).e = 6) := by
  unfold rdText
  rcases mo255 s h with ⟨x, M, h1, h2, h3⟩ | ⟨h1, h2⟩
  · rw [h1, h2]
    simp only [rdTake]
    rcases tk_sim s x h3 with ⟨a1, a2, a3⟩ | ⟨a1, a2⟩
    · left
      rw [if_pos a1]
      refine ⟨_, _, rfl, ?_, a3⟩
      apply ByteArray.ext
      apply Array.toList_inj.1
      rw [a2]
    · right
      rw [if_neg (by omega)]
      exact ⟨rfl, a2⟩
  · right
    rw [h1]
    exact ⟨rfl, by rw [tk_bad s _ _ (by rw [h2]; decide)]; exact h2⟩
theorem bo_sim : ∀ (c : Nat) (q : Rst) (L : List UInt8) (K : List Bool), Sim s q L →
    (∃ r M, rdBools c L = .ok (r, M) ∧ (bo s c q K).2 = K ++ r ∧ Sim s (bo s c q K).1 M) ∨ (∃ x, rdBools c L = .error x ∧ x ≠ 0 ∧ (bo s c q K).1.e = x)
  | 0, q, L, K, h => Or.inl ⟨[], L, rfl, by simp [bo], h⟩
  | c + 1, q, L, K, h => by
    unfold rdBools bo
    rw [if_pos h.1]
    rcases mo_sim s 1 h with ⟨x, M, h1, h2, ⟨h3, h4⟩ | ⟨h3, h4⟩⟩ | ⟨h1, h2⟩
    · right
      rw [h1]
      simp only [if_pos h3]
      exact ⟨5, rfl, by decide, by rw [bo_bad s c _ _ (by rw [h4]; decide)]; exact h4⟩
    · rw [h1, h2]
      simp only [if_neg (show ¬ 1 < x by omega)]
      rcases bo_sim c (mo s q 1) M (K ++ [x == 1]) h4 with ⟨r, R, a1, a2, a3⟩ | ⟨y, a1, a2, a3⟩
      · left
        rw [a1]
        exact ⟨_, _, rfl, by rw [a2]; simp, a3⟩
      · right
        rw [a1]
        exact ⟨y, rfl, a2, a3⟩
    · right
      rw [h1]
      exact ⟨6, rfl, by decide, by rw [bo_bad s c _ _ (by rw [h2]; decide)]; exact h2⟩
/-- one act: what the reader takes is what the bytes say -/
theorem one_sim {q : Rst} {L : List UInt8} (h : Sim s q L) :
    (∃ a M, rdOne L = .ok (a, M) ∧ (oneA s q).1 = a ∧ Sim s (oneA s q).2 M) ∨ (∃ x, rdOne L = .error x ∧ x ≠ 0 ∧ (oneA s q).2.e = x) := by
  have st : ∀ (q : Rst) (n : Nat), q.e = 6 → (tk s q n).e = 6 := fun q n h => by rw [tk_bad s q n (by rw [h]; decide)]; exact h
  have sm : ∀ (q : Rst) (n : Nat), q.e = 6 → (mo s q n).e = 6 := fun q n h => by rw [mo_bad s q n (by rw [h]; decide)]; exact h
  unfold rdOne oneA
  rcases mo_sim s 5 h with ⟨k, M, h1, h2, ⟨h3, h4⟩ | ⟨h3, h4⟩⟩ | ⟨h1, h2⟩
  · right
    rw [h1]
    simp only [h2, if_pos (show 6 ≤ k by omega)]
    rw [if_pos (show (mo s q 5).e ≠ 0 by rw [h4]; decide)]
    exact ⟨5, rfl, by decide, h4⟩
  · rw [h1]
    simp only [h2, if_neg (show ¬ 6 ≤ k by omega)]
    rw [if_neg (show ¬ (mo s q 5).e ≠ 0 by rw [h4.1]; simp)]
    by_cases k0 : k = 0
    · rw [if_pos k0, if_pos k0]
      unfold rdAsk
      rcases mo255 s h4 with ⟨rk, L1, a1, a2, a3⟩ | ⟨a1, a2⟩
      · rw [a1]; simp only [a2]
        rcases text_sim s a3 with ⟨id, L2, b1, b2, b3⟩ | ⟨b1, b2⟩
        · rw [b1]; simp only [b2]
          rcases text_sim s b3 with ⟨va, L3, c1, c2, c3⟩ | ⟨c1, c2⟩
          · rw [c1]; simp only [c2]
            rcases num_sim s 8 (by decide) c3 with ⟨t, L4, d1, d2, d3⟩ | ⟨d1, d2⟩
            · rw [d1]; simp only [d2]
              rcases mo255 s d3 with ⟨pk, L5, e1, e2, e3⟩ | ⟨e1, e2⟩
              · rw [e1]; simp only [e2]; exact Or.inl ⟨_, _, rfl, rfl, e3⟩
              · rw [e1]; exact Or.inr ⟨6, rfl, by decide, e2⟩
            · rw [d1]; exact Or.inr ⟨6, rfl, by decide, sm _ _ d2⟩
          · rw [c1]; exact Or.inr ⟨6, rfl, by decide, sm _ _ (st _ _ c2)⟩
        · rw [b1]; exact Or.inr ⟨6, rfl, by decide, sm _ _ (st _ _ (st _ _ (sm _ _ b2)))⟩
      · rw [a1]; exact Or.inr ⟨6, rfl, by decide, sm _ _ (st _ _ (st _ _ (sm _ _ (st _ _ (sm _ _ a2)))))⟩
    rw [if_neg k0, if_neg k0]
    have num : ∀ (K : Int) (b : Nat), b ≤ 8 → (∃ a M', rdN K b M = .ok (a, M') ∧ ({ Ac.zero with kind := K, n := nm s (mo s q 5) b } : Ac) = a ∧ Sim s (tk s (mo s q 5) b) M') ∨ (∃ x, rdN K b M = .error x ∧ x ≠ 0 ∧ (tk s (mo s q 5) b).e = x) := by
      intro K b hb
      unfold rdN
      rcases num_sim s b hb h4 with ⟨x, R, a1, a2, a3⟩ | ⟨a1, a2⟩
      · rw [a1, a2]; exact Or.inl ⟨_, _, rfl, rfl, a3⟩
      · rw [a1]; exact Or.inr ⟨6, rfl, by decide, a2⟩
    by_cases k1 : k = 1
    · rw [if_pos k1, if_pos k1]; exact num 1 8 (by decide)
    rw [if_neg k1, if_neg k1]
    by_cases k2 : k = 2
    · rw [if_pos k2, if_pos k2]; exact num 2 1 (by decide)
    rw [if_neg k2, if_neg k2]
    by_cases k4 : k = 4
    · rw [if_pos k4, if_pos k4]; exact num 4 2 (by decide)
    rw [if_neg k4, if_neg k4]
    by_cases k5 : k = 5
    · rw [if_pos k5, if_pos k5]
      unfold rdCrash
      rcases mo255 s h4 with ⟨c, L1, a1, a2, a3⟩ | ⟨a1, a2⟩
      · rw [a1]; simp only [a2]
        rcases bo_sim s c _ _ [] a3 with ⟨r, L2, b1, b2, b3⟩ | ⟨x, b1, b2, b3⟩
        · rw [b1]; simp only [b2, List.nil_append]
          rcases num_sim s 2 (by decide) b3 with ⟨t, L3, c1, c2, c3⟩ | ⟨c1, c2⟩
          · rw [c1]; simp only [c2]
            rcases mo_sim s 128 c3 with ⟨p, L4, d1, d2, ⟨d3, d4⟩ | ⟨d3, d4⟩⟩ | ⟨d1, d2⟩
            · rw [d1]; simp only [if_pos d3]; exact Or.inr ⟨5, rfl, by decide, by rw [tk_bad s _ _ (by rw [d4]; decide)]; exact d4⟩
            · rw [d1]; simp only [if_neg (show ¬ 128 < p by omega), d2]
              rcases num_sim s 8 (by decide) d4 with ⟨n, L5, e1, e2, e3⟩ | ⟨e1, e2⟩
              · rw [e1]; simp only [e2]; exact Or.inl ⟨_, _, rfl, rfl, e3⟩
              · rw [e1]; exact Or.inr ⟨6, rfl, by decide, e2⟩
            · rw [d1]; exact Or.inr ⟨6, rfl, by decide, st _ _ d2⟩
          · rw [c1]; exact Or.inr ⟨6, rfl, by decide, st _ _ (sm _ _ c2)⟩
        · rw [b1]
          refine Or.inr ⟨x, rfl, b2, ?_⟩
          have hx : (bo s c (mo s (mo s q 5) 255) []).1.e ≠ 0 := by rw [b3]; exact b2
          rw [tk_bad s _ 2 hx, mo_bad s _ 128 hx, tk_bad s _ 8 hx]
          exact b3
      · rw [a1]
        refine Or.inr ⟨6, rfl, by decide, ?_⟩
        have hx : (mo s (mo s q 5) 255).e ≠ 0 := by rw [a2]; decide
        simp only [bo_bad s _ _ _ hx, tk_bad s _ 2 hx, mo_bad s _ 128 hx, tk_bad s _ 8 hx]
        exact a2
    rw [if_neg k5, if_neg k5]
    have k3 : k = 3 := by omega
    subst k3
    exact Or.inl ⟨_, _, rfl, rfl, h4⟩
  · right
    rw [h1]
    simp only [if_pos (show (mo s q 5).e ≠ 0 by rw [h2]; decide)]
    exact ⟨6, rfl, by decide, h2⟩
end Go.Proofs.Ytjkiofgllmjkcaa.G
