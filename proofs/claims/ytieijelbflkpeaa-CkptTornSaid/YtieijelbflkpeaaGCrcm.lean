/-! CRC-32, in plain Lean: the step of one bit, of one byte, of bytes; linearity, injectivity. -/
namespace Go.Proofs.Ytieijelbflkpeaa.CrcPlain
set_option linter.unusedVariables false
set_option linter.unusedSimpArgs false

abbrev B := BitVec 32
def poly : B := 0xedb88320#32
/-- one bit -/
def st (x : B) : B := if x.getLsbD 0 then (x >>> 1) ^^^ poly else x >>> 1
def sts : Nat → B → B
  | 0, x => x
  | n + 1, x => sts n (st x)

theorem st_bit (x : B) (i : Nat) (_hi : i < 32) : (st x).getLsbD i = ((x.getLsbD (i + 1)) ^^ (x.getLsbD 0 && poly.getLsbD i)) := by
  unfold st
  by_cases h : x.getLsbD 0 = true
  · rw [if_pos h, h, BitVec.getLsbD_xor, BitVec.getLsbD_ushiftRight, Nat.add_comm 1 i, Bool.true_and]
  · rw [if_neg h, BitVec.getLsbD_ushiftRight, Nat.add_comm 1 i]
    have h' : x.getLsbD 0 = false := by simpa using h
    rw [h', Bool.false_and, Bool.xor_false]

theorem st_xor (x y : B) : st (x ^^^ y) = st x ^^^ st y := by
  apply BitVec.eq_of_getLsbD_eq
  intro i hi
  rw [BitVec.getLsbD_xor, st_bit _ _ hi, st_bit _ _ hi, st_bit _ _ hi, BitVec.getLsbD_xor, BitVec.getLsbD_xor]
  cases x.getLsbD (i + 1) <;> cases y.getLsbD (i+1) <;> cases x.getLsbD 0 <;> cases y.getLsbD 0 <;> cases poly.getLsbD i <;> rfl

theorem sts_xor (n : Nat) : ∀ x y : B, sts n (x ^^^ y) = sts n x ^^^ sts n y := by
  induction n with
  | zero => intro x y; rfl
  | succ n ih => intro x y; simp only [sts, st_xor, ih]

theorem sts_zero (n : Nat) : sts n 0#32 = 0#32 := by
  induction n with
  | zero => rfl
  | succ n ih => rw [sts, show st 0#32 = 0#32 from by decide]; exact ih

theorem st_inj0 (x : B) (h : st x = 0#32) : x = 0#32 := by
  have hb : ∀ i, i < 32 → ((x.getLsbD (i + 1)) ^^ (x.getLsbD 0 && poly.getLsbD i)) = false := by
    intro i hi
    rw [← st_bit x i hi, h]; simp
  have h0 : x.getLsbD 0 = false := by
    have := hb 31 (by omega)
    rw [BitVec.getLsbD_of_ge x (31 + 1) (by omega), show poly.getLsbD 31 = true from by decide] at this
    simpa using this
  apply BitVec.eq_of_getLsbD_eq
  intro i hi
  rw [BitVec.getLsbD_zero]
  cases i with
  | zero => exact h0
  | succ i =>
    have := hb i (by omega)
    rw [h0] at this
    simpa using this

theorem sts_inj0 (n : Nat) : ∀ x : B, sts n x = 0#32 → x = 0#32 := by
  induction n with
  | zero => intro x h; exact h
  | succ n ih => intro x h; exact st_inj0 x (ih _ h)

theorem xor_eq_zero {x y : B} (h : x ^^^ y = 0#32) : x = y := by
  have : x ^^^ y ^^^ y = 0#32 ^^^ y := by rw [h]
  simpa [BitVec.xor_assoc] using this

theorem sts_inj (n : Nat) (x y : B) (h : sts n x = sts n y) : x = y := by
  apply xor_eq_zero
  apply sts_inj0 n
  rw [sts_xor, h]; simp

/-- a byte's -/
def by8 (c : BitVec 8) : B := c.setWidth 32
def one (r : B) (c : BitVec 8) : B := sts 8 (r ^^^ by8 c)

theorem st_even (x : B) (h : x.getLsbD 0 = false) : st x = x >>> 1 := by unfold st; rw [h]; rfl

theorem sts_shl (n : Nat) (x : B) (h : ∀ i, i < n → x.getLsbD i = false) : sts n x = x >>> n := by
  induction n generalizing x with
  | zero => simp [sts]
  | succ n ih =>
    rw [sts, st_even x (h 0 (by omega)), ih]
    · apply BitVec.eq_of_getLsbD_eq
      intro i hi
      simp only [BitVec.getLsbD_ushiftRight]
      congr 1; omega
    · intro i hi
      rw [BitVec.getLsbD_ushiftRight]
      exact h _ (by omega)

/-- the table's step is the bit's steps: the low byte by the table, the others moved -/
theorem one_table (r : B) (c : BitVec 8) : one r c = sts 8 (by8 (r.setWidth 8 ^^^ c)) ^^^ (r >>> 8) := by
  unfold one
  have e : r ^^^ by8 c = by8 (r.setWidth 8 ^^^ c) ^^^ ((r >>> 8) <<< 8) := by
    apply BitVec.eq_of_getLsbD_eq
    intro i hi
    simp only [by8, BitVec.getLsbD_xor, BitVec.getLsbD_setWidth, BitVec.getLsbD_shiftLeft, BitVec.getLsbD_ushiftRight]
    by_cases h8 : i < 8
    · simp [h8, hi]
    · have : 8 + (i - 8) = i := by omega
      simp [h8, hi, this, BitVec.getLsbD_of_ge c i (by omega)]
  rw [e, sts_xor, sts_shl 8 ((r >>> 8) <<< 8)]
  · congr 1
    apply BitVec.eq_of_getLsbD_eq
    intro i hi
    simp only [BitVec.getLsbD_ushiftRight, BitVec.getLsbD_shiftLeft]
    have : 8 + i - 8 = i := by omega
    by_cases h24 : 8 + i < 32
    · simp [this, h24]
    · simp [h24]; rw [BitVec.getLsbD_of_ge r (8 + i) (by omega)]
  · intro i hi
    simp [BitVec.getLsbD_shiftLeft, hi]

def crcs (r : B) (l : List (BitVec 8)) : B := l.foldl one r

theorem crcs_append (r : B) (l m : List (BitVec 8)) : crcs r (l ++ m) = crcs (crcs r l) m := List.foldl_append
theorem one_xor (r t : B) (c d : BitVec 8) : one (r ^^^ t) (c ^^^ d) = one r c ^^^ one t d := by
  unfold one
  rw [← sts_xor]
  congr 1
  have : by8 (c ^^^ d) = by8 c ^^^ by8 d := by simp [by8, BitVec.setWidth_xor]
  rw [this]
  ac_rfl

theorem crcs_xor : ∀ (l m : List (BitVec 8)) (r t : B), l.length = m.length → crcs (r ^^^ t) (List.zipWith (· ^^^ ·) l m) = crcs r l ^^^ crcs t m
  | [], [], _, _, _ => rfl
  | c :: l, d :: m, r, t, h => by
    simp only [crcs, List.zipWith_cons_cons, List.foldl_cons]
    rw [one_xor]
    exact crcs_xor l m (one r c) (one t d) (by simpa using h)

theorem one_inj (r t : B) (c : BitVec 8) (h : one r c = one t c) : r = t := by
  have := sts_inj 8 _ _ h
  have h2 : r ^^^ by8 c ^^^ by8 c = t ^^^ by8 c ^^^ by8 c := by rw [this]
  simpa [BitVec.xor_assoc] using h2

theorem crcs_inj : ∀ (l : List (BitVec 8)) (r t : B), crcs r l = crcs t l → r = t
  | [], _, _, h => h
  | c :: l, r, t, h => one_inj r t c (crcs_inj l _ _ h)


/-- up to four bytes as one number -/
def le : List (BitVec 8) → B
  | [] => 0#32
  | c :: l => by8 c ^^^ (le l <<< 8)

theorem le_bit : ∀ (l : List (BitVec 8)) (i : Nat), 8 * l.length ≤ i → (le l).getLsbD i = false
  | [], i, _ => by simp [le]
  | c :: l, i, h => by
    simp only [List.length_cons] at h
    simp only [le, by8, BitVec.getLsbD_xor, BitVec.getLsbD_setWidth, BitVec.getLsbD_shiftLeft]
    rw [BitVec.getLsbD_of_ge c i (by omega), le_bit l (i - 8) (by omega)]
    simp

theorem crcs_le : ∀ (l : List (BitVec 8)) (r : B), l.length ≤ 4 → crcs r l = sts (8 * l.length) (r ^^^ le l)
  | [], r, _ => by simp [crcs, le, sts]
  | c :: l, r, h => by
    simp only [List.length_cons] at h
    have hl : crcs r (c :: l) = crcs (one r c) l := rfl
    rw [hl, crcs_le l _ (by omega)]
    have hs : ∀ (n m : Nat) (x : B), sts (n + m) x = sts n (sts m x) := by
      intro n m
      induction m with
      | zero => intro x; rfl
      | succ m ih => intro x; exact ih (st x)
    have e : one r c ^^^ le l = sts 8 (r ^^^ le (c :: l)) := by
      have h8 : sts 8 (le l <<< 8) = le l := by
        rw [sts_shl 8]
        · apply BitVec.eq_of_getLsbD_eq
          intro i hi
          simp only [BitVec.getLsbD_ushiftRight, BitVec.getLsbD_shiftLeft]
          by_cases h24 : 8 + i < 32
          · have : 8 + i - 8 = i := by omega
            simp [this, h24]
          · simp [h24]; rw [le_bit l i (by omega)]
        · intro i hi
          simp [BitVec.getLsbD_shiftLeft, hi]
      have e2 : r ^^^ le (c :: l) = (r ^^^ by8 c) ^^^ (le l <<< 8) := by simp only [le]; ac_rfl
      rw [e2, sts_xor, h8]; rfl
    rw [e, ← hs]
    congr 1

theorem le_zero : ∀ (l : List (BitVec 8)), l.length ≤ 4 → le l = 0#32 → ∀ c ∈ l, c = 0#8
  | [], _, _, c, hc => by cases hc
  | d :: l, h, h0, c, hc => by
    simp only [List.length_cons] at h
    have hb : ∀ i, (le (d :: l)).getLsbD i = false := by intro i; rw [h0]; simp
    have hd : d = 0#8 := by
      apply BitVec.eq_of_getLsbD_eq
      intro i hi
      have := hb i
      simp only [le, by8, BitVec.getLsbD_xor, BitVec.getLsbD_setWidth, BitVec.getLsbD_shiftLeft] at this
      have h32 : i < 32 := by omega
      simp only [h32, hi, decide_true, Bool.not_true, Bool.false_and, Bool.and_false, Bool.true_and, Bool.xor_false] at this
      rw [this]; simp
    have hl : le l = 0#32 := by
      apply BitVec.eq_of_getLsbD_eq
      intro i hi
      rw [BitVec.getLsbD_zero]
      by_cases h24 : i < 24
      · have := hb (i + 8)
        simp only [le, by8, BitVec.getLsbD_xor, BitVec.getLsbD_setWidth, BitVec.getLsbD_shiftLeft] at this
        rw [BitVec.getLsbD_of_ge d (i + 8) (by omega)] at this
        have e : i + 8 - 8 = i := by omega
        have h32 : i + 8 < 32 := by omega
        have h8 : ¬ (i + 8 < 8) := by omega
        simpa [e, h32, h8] using this
      · exact le_bit l i (by omega)
    rcases List.mem_cons.1 hc with rfl | hc
    · exact hd
    · exact le_zero l (by omega) hl c hc

theorem crcs_zero_burst (l : List (BitVec 8)) (h : l.length ≤ 4) (h0 : crcs 0#32 l = 0#32) : ∀ c ∈ l, c = 0#8 := by
  rw [crcs_le l _ h] at h0
  have := sts_inj0 _ _ h0
  exact le_zero l h (by simpa using this)

/-- bytes that are other ones within at most four, one behind the other, lead elsewhere -/
theorem burst (a m m' z : List (BitVec 8)) (r : B) (hl : m.length = m'.length) (h4 : m.length ≤ 4) (h : crcs r (a ++ m ++ z) = crcs r (a ++ m' ++ z)) : m = m' := by
  rw [crcs_append, crcs_append, crcs_append r (a ++ m'), crcs_append r a] at h
  have h1 := crcs_inj z _ _ h
  have h2 : crcs (crcs r a ^^^ crcs r a) (List.zipWith (· ^^^ ·) m m') = 0#32 := by
    rw [crcs_xor m m' _ _ hl, h1]; simp
  have h3 := crcs_zero_burst (List.zipWith (· ^^^ ·) m m') (by simp; omega) (by simpa using h2)
  apply List.ext_getElem hl
  intro i hi hi'
  have := h3 (m[i] ^^^ m'[i]) (by
    rw [List.mem_iff_getElem]
    exact ⟨i, by simp; omega, by simp⟩)
  have h5 : m[i] ^^^ m'[i] ^^^ m'[i] = 0#8 ^^^ m'[i] := by rw [this]
  simpa [BitVec.xor_assoc] using h5

end Go.Proofs.Ytieijelbflkpeaa.CrcPlain
