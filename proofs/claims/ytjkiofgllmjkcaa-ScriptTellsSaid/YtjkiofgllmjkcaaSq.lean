/- What is read is what is encoded of it: plain laws of acts' bytes, and of lists of acts. -/
import Derived.Test.YtjkiofgllmjkcaaSp
namespace Go.Proofs.Ytjkiofgllmjkcaa.G
open Go.RowKit Go.Proofs.Ytjkiofgllmjkcaa.WordPlain
set_option linter.unusedVariables false
set_option linter.unusedSimpArgs false

theorem zero_kind : Ac.zero.Kind := by
  constructor <;> decide
theorem toNat_cast (n : Nat) : Int.toNat (n : Int) = n := Int.toNat_natCast n
/-- what is read is an act that may be, and its bytes -/
theorem one_inv {L R : List UInt8} {a : Ac} (h : rdOne L = .ok (a, R)) : L = a.bytes.data.toList ++ R ∧ a.Right ∧ a.Kind := by
  unfold rdOne at h
  cases h1 : rdNum 1 L with
  | error e => rw [h1] at h; cases h
  | ok p =>
    obtain ⟨k, M⟩ := p
    rw [h1] at h
    obtain ⟨e1, b1⟩ := rdNum_inv h1
    simp only at h
    by_cases h6 : 6 ≤ k
    · rw [if_pos h6] at h; cases h
    rw [if_neg h6] at h
    have num : ∀ b : Nat, ((k = 1 ∧ b = 8) ∨ (k = 2 ∧ b = 1) ∨ (k = 4 ∧ b = 2)) → rdN k b M = .ok (a, R) → L = a.bytes.data.toList ++ R ∧ a.Right ∧ a.Kind := by
      intro b hkb hn
      unfold rdN at hn
      cases h2 : rdNum b M with
      | error e => rw [h2] at hn; cases hn
      | ok q =>
        obtain ⟨n, N⟩ := q
        rw [h2] at hn
        obtain ⟨e2, b2⟩ := rdNum_inv h2
        simp only at hn
        injection hn with hn
        injection hn with ha hR
        have hk : a.kind = (k : Int) := by rw [← ha]
        have hnn : a.n = n := by rw [← ha]
        refine ⟨?_, ?_, ?_⟩
        · rw [bytesN a k b hk hkb, hnn, List.append_assoc, ← hR, ← e2]; exact e1
        · constructor
          · rw [← ha]; unfold Ac.only
            rcases hkb with ⟨rfl, rfl⟩ | ⟨rfl, rfl⟩ | ⟨rfl, rfl⟩ <;> simp [Ac.zero]
          · unfold Ac.fits
            rw [hk]
            rcases hkb with ⟨rfl, rfl⟩ | ⟨rfl, rfl⟩ | ⟨rfl, rfl⟩ <;> simp [hnn] <;> omega
        · rw [← ha]
          refine ⟨by show (-9223372036854775808 : Int) ≤ (k : Int) ∧ (k : Int) < 9223372036854775808; omega, zero_kind.rk, zero_kind.id, zero_kind.va, zero_kind.ttl, zero_kind.pick, ?_, zero_kind.keep, zero_kind.torn, zero_kind.pl⟩
          show n < 18446744073709551616
          rcases hkb with ⟨_, rfl⟩ | ⟨_, rfl⟩ | ⟨_, rfl⟩ <;> omega
    by_cases k0 : k = 0
    · rw [if_pos k0] at h
      unfold rdAsk at h
      cases h2 : rdNum 1 M with
      | error e => rw [h2] at h; cases h
      | ok q =>
        obtain ⟨rk, M1⟩ := q
        rw [h2] at h
        obtain ⟨e2, b2⟩ := rdNum_inv h2
        simp only at h
        cases h3 : rdText M1 with
        | error e => rw [h3] at h; cases h
        | ok q =>
          obtain ⟨s1, M2⟩ := q
          rw [h3] at h
          obtain ⟨e3, b3⟩ := rdText_inv h3
          simp only at h
          cases h4 : rdText M2 with
          | error e => rw [h4] at h; cases h
          | ok q =>
            obtain ⟨s2, M3⟩ := q
            rw [h4] at h
            obtain ⟨e4, b4⟩ := rdText_inv h4
            simp only at h
            cases h5 : rdNum 8 M3 with
            | error e => rw [h5] at h; cases h
            | ok q =>
              obtain ⟨tt, M4⟩ := q
              rw [h5] at h
              obtain ⟨e5, b5⟩ := rdNum_inv h5
              simp only at h
              cases h7 : rdNum 1 M4 with
              | error e => rw [h7] at h; cases h
              | ok q =>
                obtain ⟨pk, M5⟩ := q
                rw [h7] at h
                obtain ⟨e7, b7⟩ := rdNum_inv h7
                simp only at h
                injection h with h
                injection h with ha hR
                have hk : a.kind = 0 := by rw [← ha]; rfl
                refine ⟨?_, ?_, ?_⟩
                · rw [bytes0 a hk, ← ha]
                  simp only [toNat_cast, List.append_assoc]
                  rw [← hR, ← e7, ← e5, ← e4, ← e3, ← e2, ← k0]
                  exact e1
                · constructor
                  · rw [← ha]; unfold Ac.only; simp [Ac.zero]
                  · unfold Ac.fits
                    rw [hk, if_pos rfl, ← ha]
                    simp only
                    omega
                · rw [← ha]
                  refine ⟨zero_kind.kind, by show (-9223372036854775808 : Int) ≤ (rk : Int) ∧ (rk : Int) < 9223372036854775808; omega, by show s1.size ≤ 140737488351232; omega, by show s2.size ≤ 140737488351232; omega, by show tt < 18446744073709551616; omega, by show (-9223372036854775808 : Int) ≤ (pk : Int) ∧ (pk : Int) < 9223372036854775808; omega, zero_kind.n, zero_kind.keep, zero_kind.torn, zero_kind.pl⟩
    rw [if_neg k0] at h
    by_cases k1 : k = 1
    · rw [if_pos k1] at h; exact num 8 (by omega) (by rw [k1]; exact h)
    rw [if_neg k1] at h
    by_cases k2 : k = 2
    · rw [if_pos k2] at h; exact num 1 (by omega) (by rw [k2]; exact h)
    rw [if_neg k2] at h
    by_cases k4 : k = 4
    · rw [if_pos k4] at h; exact num 2 (by omega) (by rw [k4]; exact h)
    rw [if_neg k4] at h
    by_cases k5 : k = 5
    · rw [if_pos k5] at h
      unfold rdCrash at h
      cases h2 : rdNum 1 M with
      | error e => rw [h2] at h; cases h
      | ok q =>
        obtain ⟨c, M1⟩ := q
        rw [h2] at h
        obtain ⟨e2, b2⟩ := rdNum_inv h2
        simp only at h
        cases h3 : rdBools c M1 with
        | error e => rw [h3] at h; cases h
        | ok q =>
          obtain ⟨kp, M2⟩ := q
          rw [h3] at h
          obtain ⟨e3, b3⟩ := rdBools_inv c h3
          simp only at h
          cases h4 : rdNum 2 M2 with
          | error e => rw [h4] at h; cases h
          | ok q =>
            obtain ⟨to, M3⟩ := q
            rw [h4] at h
            obtain ⟨e4, b4⟩ := rdNum_inv h4
            simp only at h
            cases h5 : rdNum 1 M3 with
            | error e => rw [h5] at h; cases h
            | ok q =>
              obtain ⟨pl, M4⟩ := q
              rw [h5] at h
              obtain ⟨e5, b5⟩ := rdNum_inv h5
              simp only at h
              by_cases hp : 128 < pl
              · rw [if_pos hp] at h; cases h
              rw [if_neg hp] at h
              cases h7 : rdNum 8 M4 with
              | error e => rw [h7] at h; cases h
              | ok q =>
                obtain ⟨n, M5⟩ := q
                rw [h7] at h
                obtain ⟨e7, b7⟩ := rdNum_inv h7
                simp only at h
                injection h with h
                injection h with ha hR
                have hk : a.kind = 5 := by rw [← ha]
                refine ⟨?_, ?_, ?_⟩
                · rw [bytes5 a hk, ← ha]
                  simp only [toNat_cast, List.append_assoc]
                  rw [b3, ← hR, ← e7, ← e5, ← e4, ← e3, ← e2, ← k5]
                  exact e1
                · constructor
                  · rw [← ha]; unfold Ac.only; simp [Ac.zero]
                  · unfold Ac.fits
                    rw [hk, if_neg (by decide), if_neg (by decide), if_neg (by decide), if_pos rfl, ← ha]
                    simp only
                    omega
                · rw [← ha]
                  refine ⟨by show (-9223372036854775808 : Int) ≤ 5 ∧ (5 : Int) < 9223372036854775808; decide, zero_kind.rk, zero_kind.id, zero_kind.va, zero_kind.ttl, zero_kind.pick, by show n < 18446744073709551616; omega, by show kp.length ≤ 140737488351232; omega, by show (-9223372036854775808 : Int) ≤ (to : Int) ∧ (to : Int) < 9223372036854775808; omega, by show (-9223372036854775808 : Int) ≤ (pl : Int) ∧ (pl : Int) < 9223372036854775808; omega⟩
    rw [if_neg k5] at h
    have k3 : k = 3 := by omega
    injection h with h
    injection h with ha hR
    have hk : a.kind = 3 := by rw [← ha]
    refine ⟨by rw [bytes3 a hk, ← hR, ← k3]; exact e1, ?_, ?_⟩
    · constructor
      · rw [← ha]; unfold Ac.only; simp [Ac.zero]
      · unfold Ac.fits; rw [hk, if_neg (by decide), if_neg (by decide), if_neg (by decide), if_neg (by decide)]; exact Or.inr rfl
    · rw [← ha]
      exact ⟨by show (-9223372036854775808 : Int) ≤ 3 ∧ (3 : Int) < 9223372036854775808; decide, zero_kind.rk, zero_kind.id, zero_kind.va, zero_kind.ttl, zero_kind.pick, zero_kind.n, zero_kind.keep, zero_kind.torn, zero_kind.pl⟩

/-- the bytes of many acts -/
def encL (l : List Ac) : List UInt8 := l.flatMap fun a => a.bytes.data.toList
theorem encB_list (l : List Ac) : (encB l).data.toList = encL l := by
  rw [← List.reverse_reverse l]
  induction l.reverse with
  | nil => rfl
  | cons a r ih =>
    rw [List.reverse_cons, encB_snoc, ByteArray.data_append, Array.toList_append, ih]
    simp [encL]
theorem bytes_some (a : Ac) : ∃ c M, a.bytes.data.toList = c :: M := by
  have h : 1 ≤ a.bytes.data.toList.length := by
    show 1 ≤ a.bytes.size
    unfold Ac.bytes
    split
    · rw [ByteArray.size_append, wput_size]; omega
    split
    · rw [ByteArray.size_append, wput_size]; omega
    split
    · rw [ByteArray.size_append, wput_size]; omega
    split
    · rw [ByteArray.size_append, wput_size]; omega
    split
    · rw [ByteArray.size_append, wput_size]; omega
    · rw [wput_size]; omega
  cases hl : a.bytes.data.toList with
  | nil => rw [hl] at h; simp at h
  | cons c M => exact ⟨c, M, rfl⟩
theorem all_back : ∀ (l : List Ac) (f : Nat), allR l → (∀ a ∈ l, a.Kind) → (encL l).length ≤ f → rdAll f (encL l) = .ok l
  | [], f, _, _, _ => by cases f <;> rfl
  | a :: l, f, hr, hk, hf => by
    have e : encL (a :: l) = a.bytes.data.toList ++ encL l := by simp [encL]
    rw [e] at hf ⊢
    obtain ⟨c, M, hc⟩ := bytes_some a
    have h1 := one_back a (hr a (by simp)) (hk a (by simp)) (encL l)
    rw [List.length_append, hc, List.length_cons] at hf
    obtain ⟨g, rfl⟩ : ∃ g, f = g + 1 := ⟨f - 1, by omega⟩
    have ih := all_back l g (fun x hx => hr x (List.mem_cons_of_mem _ hx)) (fun x hx => hk x (List.mem_cons_of_mem _ hx)) (by omega)
    rw [hc] at h1 ⊢
    rw [List.cons_append] at h1 ⊢
    simp only [rdAll, h1, ih]
theorem all_inv : ∀ (f : Nat) (L : List UInt8) (l : List Ac), rdAll f L = .ok l → L = encL l ∧ allR l ∧ (∀ a ∈ l, a.Kind)
  | f, [], l, h => by
    have e : rdAll f [] = .ok [] := by cases f <;> rfl
    rw [e] at h
    injection h with h
    subst h
    exact ⟨rfl, (fun a ha => by cases ha), (fun a ha => by cases ha)⟩
  | 0, c :: L, l, h => by simp only [rdAll] at h; cases h
  | f + 1, c :: L, l, h => by
    simp only [rdAll] at h
    cases h1 : rdOne (c :: L) with
    | error e => rw [h1] at h; cases h
    | ok p =>
      obtain ⟨a, R⟩ := p
      rw [h1] at h
      simp only at h
      cases h2 : rdAll f R with
      | error e => rw [h2] at h; cases h
      | ok r =>
        rw [h2] at h
        injection h with h
        subst h
        obtain ⟨e1, e2, e3⟩ := one_inv h1
        obtain ⟨i1, i2, i3⟩ := all_inv f R r h2
        refine ⟨by rw [e1, i1]; simp [encL], ?_, ?_⟩
        · intro x hx
          rcases List.mem_cons.1 hx with rfl | hx
          · exact e2
          · exact i2 x hx
        · intro x hx
          rcases List.mem_cons.1 hx with rfl | hx
          · exact e3
          · exact i3 x hx
theorem dec_enc (l : List Ac) (hr : allR l) (hk : ∀ a ∈ l, a.Kind) : decA (encB l) = l ∧ decX (encB l) = 0 := by
  unfold decA decX
  rw [encB_list, all_back l _ hr hk (Nat.le_refl _)]
  exact ⟨rfl, rfl⟩
theorem enc_dec (s : ByteArray) (h : decX s = 0) (h5 : ∀ f L x, rdAll f L = .error x → x ≠ 0) : encB (decA s) = s ∧ allR (decA s) ∧ (∀ a ∈ decA s, a.Kind) := by
  unfold decX at h
  unfold decA
  cases h1 : rdAll s.data.toList.length s.data.toList with
  | error e => rw [h1] at h; exact absurd h (h5 _ _ _ h1)
  | ok l =>
    obtain ⟨e1, e2, e3⟩ := all_inv _ _ _ h1
    refine ⟨?_, e2, e3⟩
    apply ByteArray.ext
    apply Array.ext'
    rw [encB_list, ← e1]
end Go.Proofs.Ytjkiofgllmjkcaa.G
