/- What is encoded is read back; what is read is what is encoded of it: plain laws of acts' bytes. -/
import Derived.Test.YtjkiofgllmjkcaaS6
import Derived.Test.YtjkiofgllmjkcaaS7
namespace Go.Proofs.Ytjkiofgllmjkcaa.G
open Go.RowKit Go.Proofs.Ytjkiofgllmjkcaa.WordPlain
set_option linter.unusedVariables false
set_option linter.unusedSimpArgs false

theorem wput_list (n k : Nat) : (wput n k).data.toList = wl n k := by simp [wput]
theorem rdNum_wl (n k : Nat) (R : List UInt8) (h : n < 256 ^ k) : rdNum k (wl n k ++ R) = .ok (n, R) := by
  unfold rdNum
  rw [if_pos (by rw [List.length_append, wl_length]; omega), List.take_left' (wl_length n k), List.drop_left' (wl_length n k), wgl_wl, Nat.mod_eq_of_lt h]
theorem rdNum_inv {k x : Nat} {L M : List UInt8} (h : rdNum k L = .ok (x, M)) : L = wl x k ++ M ∧ x < 256 ^ k := by
  unfold rdNum at h
  by_cases hk : k ≤ L.length
  · rw [if_pos hk] at h
    injection h with h
    injection h with h1 h2
    have hl : (L.take k).length = k := by rw [List.length_take]; omega
    have := wgl_lt (L.take k)
    rw [hl] at this
    refine ⟨?_, by rw [← h1]; exact this⟩
    have e := wl_wgl (L.take k)
    rw [hl, h1] at e
    rw [e, ← h2, List.take_append_drop]
  · rw [if_neg hk] at h; cases h
theorem rdTake_app (n : Nat) (A R : List UInt8) (h : A.length = n) : rdTake n (A ++ R) = .ok (A, R) := by
  unfold rdTake
  rw [if_pos (by rw [List.length_append]; omega), List.take_left' h, List.drop_left' h]
theorem txt_list (s : ByteArray) : (txt s).data.toList = wl s.size 1 ++ s.data.toList := by
  unfold txt
  rw [ByteArray.data_append, Array.toList_append, wput_list]
theorem rdText_txt (s : ByteArray) (R : List UInt8) (h : s.size ≤ 255) : rdText ((txt s).data.toList ++ R) = .ok (s, R) := by
  rw [txt_list, List.append_assoc]
  unfold rdText
  rw [rdNum_wl _ 1 _ (by omega)]
  simp only [rdTake_app s.size s.data.toList R rfl]
theorem rdText_inv {L M : List UInt8} {s : ByteArray} (h : rdText L = .ok (s, M)) : L = (txt s).data.toList ++ M ∧ s.size ≤ 255 := by
  unfold rdText at h
  cases h1 : rdNum 1 L with
  | error e => rw [h1] at h; cases h
  | ok p =>
    obtain ⟨n, N⟩ := p
    rw [h1] at h
    obtain ⟨e1, e2⟩ := rdNum_inv h1
    simp only [rdTake] at h
    by_cases hn : n ≤ N.length
    · rw [if_pos hn] at h
      simp only at h
      injection h with h
      injection h with h3 h4
      have hsz : s.size = n := by rw [← h3]; show (N.take n).length = n; rw [List.length_take]; omega
      have hsl : s.data.toList = N.take n := by rw [← h3]
      refine ⟨?_, by omega⟩
      rw [txt_list, hsz, hsl, ← h4, List.append_assoc, List.take_append_drop]
      exact e1
    · rw [if_neg hn] at h; cases h
theorem wl_one (c : UInt8) : wl c.toNat 1 = [c] := by
  have := wl_wgl [c]
  simpa [wgl] using this
theorem kb_cons (b : Bool) (l : List Bool) : (kb (b :: l)).data.toList = wl (if b then 1 else 0) 1 ++ (kb l).data.toList := by
  cases b
  · show (0 : UInt8) :: _ = _
    rw [show (wl (if false = true then 1 else 0) 1) = [(0 : UInt8)] from by decide]
    simp [kb]
  · show (1 : UInt8) :: _ = _
    rw [show (wl (if true = true then 1 else 0) 1) = [(1 : UInt8)] from by decide]
    simp [kb]
theorem rdBools_kb : ∀ (l : List Bool) (R : List UInt8), rdBools l.length ((kb l).data.toList ++ R) = .ok (l, R)
  | [], R => by simp [rdBools, kb]
  | b :: l, R => by
    rw [kb_cons, List.append_assoc]
    show rdBools (l.length + 1) _ = _
    unfold rdBools
    rw [rdNum_wl _ 1 _ (by cases b <;> decide)]
    simp only [rdBools_kb l R]
    cases b <;> rfl
theorem rdBools_inv : ∀ (c : Nat) {L M : List UInt8} {l : List Bool}, rdBools c L = .ok (l, M) → L = (kb l).data.toList ++ M ∧ l.length = c
  | 0, L, M, l, h => by
    simp only [rdBools] at h
    injection h with h
    injection h with h1 h2
    subst h1 h2
    exact ⟨by simp [kb], rfl⟩
  | c + 1, L, M, l, h => by
    unfold rdBools at h
    cases h1 : rdNum 1 L with
    | error e => rw [h1] at h; cases h
    | ok p =>
      obtain ⟨k, N⟩ := p
      rw [h1] at h
      obtain ⟨e1, e2⟩ := rdNum_inv h1
      simp only at h
      by_cases hk : 1 < k
      · rw [if_pos hk] at h; cases h
      · rw [if_neg hk] at h
        cases h2 : rdBools c N with
        | error e => rw [h2] at h; cases h
        | ok q =>
          obtain ⟨r, R⟩ := q
          rw [h2] at h
          simp only at h
          injection h with h
          injection h with h3 h4
          obtain ⟨e3, e4⟩ := rdBools_inv c h2
          subst h4
          rw [← h3, kb_cons, List.append_assoc, ← e3]
          have hk01 : k = 0 ∨ k = 1 := by omega
          refine ⟨?_, by simp [e4]⟩
          rcases hk01 with rfl | rfl
          · exact e1
          · exact e1

theorem bytes0 (a : Ac) (h : a.kind = 0) : a.bytes.data.toList = wl 0 1 ++ (wl a.rk.toNat 1 ++ ((txt a.id).data.toList ++ ((txt a.va).data.toList ++ (wl a.ttl 8 ++ wl a.pick.toNat 1)))) := by
  unfold Ac.bytes
  rw [if_pos h, h]
  simp [ByteArray.data_append, wput_list]
theorem bytesN (a : Ac) (k b : Nat) (h : a.kind = k) (hk : (k = 1 ∧ b = 8) ∨ (k = 2 ∧ b = 1) ∨ (k = 4 ∧ b = 2)) : a.bytes.data.toList = wl k 1 ++ wl a.n b := by
  unfold Ac.bytes
  rcases hk with ⟨rfl, rfl⟩ | ⟨rfl, rfl⟩ | ⟨rfl, rfl⟩ <;> (rw [h]; simp [ByteArray.data_append, wput_list])
theorem bytes3 (a : Ac) (h : a.kind = 3) : a.bytes.data.toList = wl 3 1 := by
  unfold Ac.bytes
  rw [h]; simp [wput_list]
theorem bytes5 (a : Ac) (h : a.kind = 5) : a.bytes.data.toList = wl 5 1 ++ (wl a.keep.length 1 ++ ((kb a.keep).data.toList ++ (wl a.torn.toNat 2 ++ (wl a.pl.toNat 1 ++ wl a.n 8)))) := by
  unfold Ac.bytes
  rw [h]
  simp [ByteArray.data_append, wput_list, txt_list, kb_size]

/-- an act that may be is read back -/
theorem one_back (a : Ac) (hr : a.Right) (hk : a.Kind) (R : List UInt8) : rdOne (a.bytes.data.toList ++ R) = .ok (a, R) := by
  obtain ⟨ho, hf⟩ := hr
  have hn := hk.n
  have ht := hk.ttl
  clear hk
  unfold Ac.fits at hf
  by_cases k0 : a.kind = 0
  · rw [if_pos k0] at hf
    obtain ⟨⟨f1, f2⟩, f3, f4, f5, f6⟩ := hf
    rw [bytes0 a k0]
    unfold rdOne
    simp only [List.append_assoc]
    rw [rdNum_wl 0 1 _ (by decide)]
    simp only [if_true]
    rw [if_neg (by decide)]
    unfold rdAsk
    rw [rdNum_wl _ 1 _ (by omega)]
    simp only [rdText_txt _ _ f3, rdText_txt _ _ f4]
    rw [rdNum_wl _ 8 _ (by omega)]
    simp only
    rw [rdNum_wl _ 1 _ (by omega)]
    simp only
    rw [ho]
    unfold Ac.only
    rw [if_pos k0]
    simp only [Int.toNat_of_nonneg f1, Int.toNat_of_nonneg f5]
  rw [if_neg k0] at hf
  have num : ∀ k b : Nat, a.kind = k → ((k = 1 ∧ b = 8) ∨ (k = 2 ∧ b = 1) ∨ (k = 4 ∧ b = 2)) → a.n < 256 ^ b → rdOne (a.bytes.data.toList ++ R) = .ok (a, R) := by
    intro k b e hkb hb
    rw [bytesN a k b e hkb, List.append_assoc]
    unfold rdOne
    rw [rdNum_wl k 1 _ (by omega)]
    simp only
    rw [if_neg (by omega)]
    have hon : { Ac.zero with kind := (k : Int), n := a.n } = a := by
      rw [ho]
      unfold Ac.only
      rw [if_neg k0, if_pos (by rcases hkb with ⟨rfl, _⟩ | ⟨rfl, _⟩ | ⟨rfl, _⟩ <;> omega), e]
    rcases hkb with ⟨rfl, rfl⟩ | ⟨rfl, rfl⟩ | ⟨rfl, rfl⟩ <;> (simp only [rdN]; rw [rdNum_wl _ _ _ hb]; simp [hon] <;> exact hon)
  by_cases k2 : a.kind = 2
  · rw [if_pos k2] at hf; exact num 2 1 k2 (by omega) (by omega)
  rw [if_neg k2] at hf
  by_cases k4 : a.kind = 4
  · rw [if_pos k4] at hf; exact num 4 2 k4 (by omega) (by omega)
  rw [if_neg k4] at hf
  by_cases k5 : a.kind = 5
  · rw [if_pos k5] at hf
    obtain ⟨f1, ⟨f2, f3⟩, f4, f5⟩ := hf
    rw [bytes5 a k5]
    unfold rdOne
    simp only [List.append_assoc]
    rw [rdNum_wl 5 1 _ (by decide)]
    simp only
    rw [if_neg (by decide)]
    simp only [show ¬ (5 = 0) by decide, show ¬ (5 = 1) by decide, show ¬ (5 = 2) by decide, show ¬ (5 = 4) by decide, if_false, if_true]
    unfold rdCrash
    rw [rdNum_wl _ 1 _ (by omega)]
    simp only [rdBools_kb]
    rw [rdNum_wl _ 2 _ (by omega)]
    simp only
    rw [rdNum_wl _ 1 _ (by omega)]
    simp only
    rw [if_neg (by omega), rdNum_wl _ 8 _ (by omega)]
    simp only
    rw [ho]
    unfold Ac.only
    rw [if_neg k0, if_neg (by omega), if_pos k5]
    simp only [Int.toNat_of_nonneg f2, Int.toNat_of_nonneg f4]
  rw [if_neg k5] at hf
  rcases hf with k1 | k3
  · exact num 1 8 k1 (by omega) (by omega)
  · rw [bytes3 a k3]
    unfold rdOne
    rw [rdNum_wl 3 1 _ (by decide)]
    simp only
    rw [if_neg (by decide)]
    simp only [show ¬ (3 = 0) by decide, show ¬ (3 = 1) by decide, show ¬ (3 = 2) by decide, show ¬ (3 = 4) by decide, show ¬ (3 = 5) by decide, if_false]
    rw [ho]
    unfold Ac.only
    rw [if_neg k0, if_neg (by omega), if_neg k5, k3]
end Go.Proofs.Ytjkiofgllmjkcaa.G
