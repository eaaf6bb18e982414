/-! Numbers as bytes, in plain Lean: the least byte first. -/
namespace Go.Proofs.Ythpompgcnemanaa.WordPlain
set_option linter.unusedVariables false

def byteAt (n i : Nat) : UInt8 := UInt8.ofNat (n / 256 ^ i)
theorem byteAt_nat (n i : Nat) : (byteAt n i).toNat = n / 256 ^ i % 256 := by
  unfold byteAt; rw [UInt8.toNat_ofNat']
/-- a number's first k bytes -/
def wl (n k : Nat) : List UInt8 := (List.range k).map (byteAt n)
def wput (n k : Nat) : ByteArray := ⟨(wl n k).toArray⟩
/-- the number of bytes -/
def wgl : List UInt8 → Nat
  | [] => 0
  | c :: l => c.toNat + 256 * wgl l
def wget (s : ByteArray) : Nat := wgl (s.data.toList.take 8)

theorem wl_length (n k : Nat) : (wl n k).length = k := by simp [wl]
theorem wput_size (n k : Nat) : (wput n k).size = k := by simp [wput, ByteArray.size, wl_length]
theorem wl_succ (n k : Nat) : wl n (k + 1) = byteAt n 0 :: wl (n / 256) k := by
  simp only [wl, List.range_succ_eq_map, List.map_cons, List.map_map]
  congr 1
  apply List.map_congr_left
  intro i _
  simp only [Function.comp, byteAt]
  rw [Nat.pow_succ, Nat.mul_comm, Nat.div_div_eq_div_mul]
theorem wl_snoc (n k : Nat) : wl n (k + 1) = wl n k ++ [byteAt n k] := by simp [wl, List.range_succ]
theorem wgl_wl : ∀ (k n : Nat), wgl (wl n k) = n % 256 ^ k
  | 0, n => by simp [wl, wgl, Nat.mod_one]
  | k + 1, n => by
    rw [wl_succ, wgl, wgl_wl k, byteAt_nat, Nat.pow_succ]
    simp only [Nat.pow_zero, Nat.div_one]
    rw [Nat.mul_comm (256 ^ k) 256, Nat.mod_mul]
theorem wgl_lt : ∀ l : List UInt8, wgl l < 256 ^ l.length
  | [] => by simp [wgl]
  | c :: l => by
    have h1 := wgl_lt l
    have h2 := c.toNat_lt
    rw [wgl, List.length_cons, Nat.pow_succ]
    omega
theorem wl_wgl : ∀ l : List UInt8, wl (wgl l) l.length = l
  | [] => by simp [wl]
  | c :: l => by
    have h2 := c.toNat_lt
    rw [List.length_cons, wl_succ]
    have e : wgl (c :: l) / 256 = wgl l := by rw [wgl]; omega
    have e2 : byteAt (wgl (c :: l)) 0 = c := by
      apply UInt8.toNat_inj.1
      rw [byteAt_nat, wgl]
      simp only [Nat.pow_zero, Nat.div_one]
      omega
    rw [e, e2, wl_wgl l]
theorem wgl_append : ∀ l m : List UInt8, wgl (l ++ m) = wgl l + 256 ^ l.length * wgl m
  | [], m => by simp [wgl]
  | c :: l, m => by
    rw [List.cons_append, wgl, wgl_append l m, wgl, List.length_cons, Nat.pow_succ]
    have : 256 * (256 ^ l.length * wgl m) = 256 ^ l.length * 256 * wgl m := by ac_rfl
    omega
theorem wgl_snoc (l : List UInt8) (c : UInt8) : wgl (l ++ [c]) = wgl l + 256 ^ l.length * c.toNat := by rw [wgl_append]; simp [wgl]
theorem wget_lt (s : ByteArray) : wget s < 18446744073709551616 := by
  have h := wgl_lt (s.data.toList.take 8)
  have h2 : 256 ^ (s.data.toList.take 8).length ≤ 256 ^ 8 := Nat.pow_le_pow_right (by omega) (by rw [List.length_take]; omega)
  unfold wget
  omega
theorem wget_wput (n k : Nat) (hk : k ≤ 8) : wget (wput n k) = n % 256 ^ k := by
  unfold wget wput
  rw [List.take_of_length_le (by simp [wl_length]; omega)]
  exact wgl_wl k n
theorem wl_take (n k j : Nat) (h : k ≤ j) : (wl n j).take k = wl n k := by
  simp only [wl, ← List.map_take, List.take_range]
  congr 2; omega
/-- how many bytes count -/
def zc (n : Int) : Nat := (min (max n 0) 8).toNat
theorem zc_le (n : Int) : zc n ≤ 8 := by unfold zc; omega
theorem zc_nat (n : Nat) (h : n ≤ 8) : zc n = n := by unfold zc; omega
end Go.Proofs.Ythpompgcnemanaa.WordPlain
