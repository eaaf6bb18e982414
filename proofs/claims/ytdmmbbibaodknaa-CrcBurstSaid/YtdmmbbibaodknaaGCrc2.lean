/- Contracts over the sums, for the laws' walks: each result under a name of its own. -/
import Derived.Test.YtdmmbbibaodknaaCrcPure
import Derived.Deep.Quiet
namespace Go.Proofs.Ytdmmbbibaodknaa.G
open Go.RowKit Go.Proofs.Ytdmmbbibaodknaa.CrcPlain Go.Proofs.Ytdmmbbibaodknaa.CrcPure
set_option linter.unusedVariables false
set_option linter.unusedSimpArgs false

theorem More_val (sum : B) (s : ByteArray) (w : World) (R : B) (hs : s.size ≤ 9223372036854775807) (hR : Hid (R = ~~~(crcs (~~~sum) (bl s)))) :
    Calls Try.prog 12 #[.int .u32 (sum.toNat : Int), .string s] w fun e w' => e = .returned (.int .u32 (R.toNat : Int)) ∧ Below w.heap.size w w' := by
  have := More_any sum s w hs
  rw [← hR.out] at this
  exact this
theorem More0_val (s : ByteArray) (w : World) (R : B) (hs : s.size ≤ 9223372036854775807) (hR : Hid (R = ~~~(crcs (~~~(0#32)) (bl s)))) :
    Calls Try.prog 12 #[.int .u32 0, .string s] w fun e w' => e = .returned (.int .u32 (R.toNat : Int)) ∧ Below w.heap.size w w' := More_val 0#32 s w R hs hR
theorem Sum_val (s : ByteArray) (w : World) (R : B) (hs : s.size ≤ 9223372036854775806) (hR : Hid (R = ~~~(crcs (~~~(0#32)) (bl s)))) :
    Calls Try.prog 10 #[.string s] w fun e w' => e = .returned (.int .u32 (R.toNat : Int)) ∧ Below w.heap.size w w' :=
  P.crc_Sum.calls s _ w (by rw [pSum s hs, ← hR.out])
theorem Zeros_val (sum : B) (n : Int) (w : World) (R : B) (hR : Hid (R = ~~~(crcs (~~~sum) (zs (zn n))))) :
    Calls Try.prog 14 #[.int .u32 (sum.toNat : Int), .int .i64 n] w fun e w' => e = .returned (.int .u32 (R.toNat : Int)) ∧ Below w.heap.size w w' := by
  have := Zeros_any sum n w
  rw [← hR.out] at this
  exact this
theorem Zeros0_val (n : Int) (w : World) (R : B) (hR : Hid (R = ~~~(crcs (~~~(0#32)) (zs (zn n))))) :
    Calls Try.prog 14 #[.int .u32 0, .int .i64 n] w fun e w' => e = .returned (.int .u32 (R.toNat : Int)) ∧ Below w.heap.size w w' := Zeros_val 0#32 n w R hR
theorem fixed_val (w : World) : Calls Try.prog 16 #[] w fun e w' => e = .returned (.bool true) ∧ Below w.heap.size w w' :=
  P.lodgerlaw02_fixed.calls true w fixed_ok

/-- the first bytes of a text, under one name: where it is short, and where it is not -/
theorem cut_any (s : ByteArray) (n : Nat) : ∃ t : ByteArray, t.size ≤ n ∧ t.size = min n s.size ∧ Hid (s.size ≤ n → s = t) ∧ Hid (¬ s.size ≤ n → s.extract 0 n = t) := by
  by_cases h : s.size ≤ n
  · exact ⟨s, h, by omega, fun _ => rfl, fun h' => absurd h h'⟩
  · exact ⟨s.extract 0 n, by rw [ByteArray.size_extract]; omega, by rw [ByteArray.size_extract]; omega, fun h' => absurd h' h, fun _ => rfl⟩
theorem xor_name (x y : B) : ∃ z : B, bits .xor .u32 (x.toNat : Int) (y.toNat : Int) = (z.toNat : Int) ∧ Hid (z = x ^^^ y) := ⟨_, u32_xor_bv x y, rfl⟩

/-- so many bytes 0 -/
def zstr (n : Nat) : ByteArray := ⟨(List.replicate n 0).toArray⟩
theorem zstr_size (n : Nat) : (zstr n).size = n := by simp [zstr, ByteArray.size]
theorem zstr_next (n : Nat) : zstr n ++ ⟨#[0]⟩ = zstr (n + 1) := by
  apply ByteArray.ext
  rw [ByteArray.data_append]
  simp only [zstr, List.replicate_succ', ← List.append_toArray]
theorem bl_zstr (n : Nat) : bl (zstr n) = zs n := by simp [bl, zstr, zs]
theorem bl_append (s t : ByteArray) : bl (s ++ t) = bl s ++ bl t := by simp [bl]

theorem step_ {w w1 w2 : World} (h : Below w.heap.size w w1) (k : Below w1.heap.size w1 w2) : Below w.heap.size w w2 :=
  h.trans ⟨k.os, k.tape, k.output, k.size, fun i hi => k.block i (Nat.lt_of_lt_of_le hi h.size)⟩

/-! plain laws -/
theorem xor3 (x y z : B) : ~~~(x ^^^ y ^^^ z) = ~~~x ^^^ ~~~y ^^^ ~~~z := by
  apply BitVec.eq_of_getLsbD_eq
  intro i hi
  simp [hi]
theorem flip_eq (x y : B) : (~~~x = ~~~y) ↔ x = y := by
  constructor
  · intro h
    have : ~~~(~~~x) = ~~~(~~~y) := by rw [h]
    simpa using this
  · rintro rfl; rfl
theorem toInt_eq (x y : B) : ((x.toNat : Int) == (y.toNat : Int)) = decide (x = y) := by
  rw [Bool.eq_iff_iff]
  simp only [beq_iff_eq, decide_eq_true_eq]
  constructor
  · intro h; exact BitVec.eq_of_toNat_eq (by omega)
  · rintro rfl; rfl

set_option maxRecDepth 100000 in
theorem zeros_val (n : Nat) (w : World) (z : ByteArray) (hn : n ≤ 140737488351232) (hz : Hid (z = zstr n)) :
    Calls Try.prog 17 #[.int .i64 n] w fun e w' => e = .returned (.string z) ∧ Below w.heap.size w w' := by
  go_enter Try.func17, Try.ntmps17
  go_wp2_with fail
  go_loop [3, 4] (fun z i => ∃ (k : Nat) (t : ByteArray), k ≤ n ∧ i = .int .i64 k ∧ z = .string t ∧ t = zstr k) (fun _ i => n - (intOf i).toNat)
  case atStart => exact ⟨0, _, by omega, rfl, rfl, rfl⟩
  case round =>
    obtain ⟨k, t, hk, rfl, rfl, ht⟩ := hrel
    have hts : t.size = k := by rw [ht, zstr_size]
    have htb : t.size ≤ 140737488351232 := by omega
    have HT := Lib.hid ht
    have HTS := Lib.hid hts
    clear ht hts
    by_cases hlt : k < n
    · go_wp2_with fail
      go_round
      case rel => exact ⟨k + 1, _, by omega, by go_num, rfl, by rw [HT.out, zstr_next]⟩
      case measure => simp [intOf]; omega
    · obtain rfl : k = n := by omega
      go_wp2_with fail
      go_ret
      exact ⟨by rw [hz.out, ← HT.out]; rfl, Below.refl _ _⟩
end Go.Proofs.Ytdmmbbibaodknaa.G
