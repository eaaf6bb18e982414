/- ScriptBits: whatever the bits, the law answers true. No condition. -/
import Derived.Test.YtjkiofgllmjkcaaSh
import Derived.Test.YtjkiofgllmjkcaaGFast
import Derived.BigQuiet
namespace Go.Proofs.Ytjkiofgllmjkcaa.L
open Go.RowKit Go.Proofs.Ytjkiofgllmjkcaa.G Go.Proofs.Ytjkiofgllmjkcaa.WordPlain
set_option linter.unusedVariables false
set_option linter.unusedSimpArgs false

def bx (x : Nat) : Ac := { Ac.zero with ttl := x }
theorem bx_kind (x : Nat) (h : x < 18446744073709551616) : (bx x).Kind := by
  constructor
  · show (-9223372036854775808 : Int) ≤ 0 ∧ (0 : Int) < 9223372036854775808; decide
  · show (-9223372036854775808 : Int) ≤ 0 ∧ (0 : Int) < 9223372036854775808; decide
  · show (0 : Nat) ≤ 140737488351232; decide
  · show (0 : Nat) ≤ 140737488351232; decide
  · exact h
  · show (-9223372036854775808 : Int) ≤ 0 ∧ (0 : Int) < 9223372036854775808; decide
  · show (0 : Nat) < 18446744073709551616; decide
  · show (0 : Nat) ≤ 140737488351232; decide
  · show (-9223372036854775808 : Int) ≤ 0 ∧ (0 : Int) < 9223372036854775808; decide
  · show (-9223372036854775808 : Int) ≤ 0 ∧ (0 : Int) < 9223372036854775808; decide
theorem bx_right (x : Nat) : (bx x).Right := by
  refine ⟨by simp [bx, Ac.only, Ac.zero], ?_⟩
  unfold Ac.fits bx Ac.zero
  simp
theorem bx_bytes (x : Nat) : (bx x).bytes.data.toList = [0, 0, 0, 0] ++ (wl x 8 ++ [0]) := by
  unfold Ac.bytes bx Ac.zero
  simp only [if_true, ByteArray.data_append, Array.toList_append]
  have e1 : (wput (Int.toNat 0) 1).data.toList = [0] := by decide
  have e2 : (txt ByteArray.empty).data.toList = [0] := by decide
  have e3 : (wput x 8).data.toList = wl x 8 := by simp [wput]
  rw [e1, e2, e3]
  simp
/-- such an act is read back -/
theorem bx_read (x : Nat) (h : x < 18446744073709551616) (R : List UInt8) : rdOne ((bx x).bytes.data.toList ++ R) = .ok (bx x, R) := by
  rw [bx_bytes]
  have h1 : ∀ (c : UInt8) (M : List UInt8), rdNum 1 (c :: M) = .ok (c.toNat, M) := by
    intro c M
    unfold rdNum
    rw [if_pos (by simp)]
    simp [wgl]
  have h8 : rdNum 8 (wl x 8 ++ (0 :: R)) = .ok (x, 0 :: R) := by
    unfold rdNum
    rw [if_pos (by simp [wl_length])]
    rw [List.take_left' (wl_length x 8), List.drop_left' (wl_length x 8), wgl_wl]
    congr 2
    omega
  have ht : ∀ M : List UInt8, rdText (0 :: M) = .ok (⟨#[]⟩, M) := by
    intro M
    unfold rdText
    rw [h1]
    simp [rdTake]
  show rdOne (0 :: 0 :: 0 :: 0 :: (wl x 8 ++ [0] ++ R)) = _
  rw [List.append_assoc]
  simp only [List.singleton_append]
  unfold rdOne
  rw [h1]
  simp only [show (0 : UInt8).toNat = 0 from rfl]
  rw [if_neg (by omega)]
  simp only [if_true]
  unfold rdAsk
  rw [h1]
  simp only [ht, h8, h1]
  rfl
theorem bits_enc (x y : Nat) : encV [bx x, bx y] = (⟨#[]⟩ ++ (bx x).bytes) ++ (bx y).bytes ∧ encE [bx x, bx y] = 0 := by
  have h : allR [bx x, bx y] := by
    intro a ha
    simp only [List.mem_cons, List.not_mem_nil, or_false] at ha
    rcases ha with rfl | rfl <;> exact bx_right _
  unfold encV encE
  rw [if_pos h, if_pos h]
  exact ⟨rfl, rfl⟩
theorem bits_list (x y : Nat) : (encV [bx x, bx y]).data.toList = (bx x).bytes.data.toList ++ (bx y).bytes.data.toList := by
  rw [(bits_enc x y).1]
  simp [ByteArray.data_append]
theorem bits_len (x : Nat) : ((bx x).bytes.data.toList).length = 13 := by rw [bx_bytes]; simp [wl_length]
theorem bits_dec (x y : Nat) (hx : x < 18446744073709551616) (hy : y < 18446744073709551616) : decA (encV [bx x, bx y]) = [bx x, bx y] ∧ decX (encV [bx x, bx y]) = 0 := by
  unfold decA decX
  rw [bits_list]
  have e : ((bx x).bytes.data.toList ++ (bx y).bytes.data.toList).length = 26 := by rw [List.length_append, bits_len, bits_len]
  rw [e]
  have c1 : ∃ c M, (bx x).bytes.data.toList ++ (bx y).bytes.data.toList = c :: M := by rw [bx_bytes]; exact ⟨_, _, rfl⟩
  have c2 : ∃ c M, (bx y).bytes.data.toList = c :: M := by rw [bx_bytes]; exact ⟨_, _, rfl⟩
  have r1 := bx_read x hx (bx y).bytes.data.toList
  have r2 := bx_read y hy []
  rw [List.append_nil] at r2
  obtain ⟨c, M, h1⟩ := c1
  obtain ⟨d, N, h2⟩ := c2
  rw [h1] at r1 ⊢
  rw [h2] at r1 r2
  simp [rdAll, r1, r2]
end Go.Proofs.Ytjkiofgllmjkcaa.L
