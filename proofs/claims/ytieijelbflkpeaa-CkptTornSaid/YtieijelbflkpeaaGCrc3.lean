/- Contracts of the sums, the program's and the reference's, by hand. -/
import Derived.Test.YtieijelbflkpeaaGCrc
import Derived.Lib.QuietBelow
import Derived.Lib.Hide
namespace Go.Proofs.Ytieijelbflkpeaa.G
open Go.RowKit Go.Proofs.Ytieijelbflkpeaa.CrcPlain
set_option linter.unusedVariables false
set_option linter.unusedSimpArgs false

theorem step_ {w w1 w2 : World} (h : Below w.heap.size w w1) (k : Below w1.heap.size w1 w2) : Below w.heap.size w w2 :=
  h.trans ⟨k.os, k.tape, k.output, k.size, fun i hi => k.block i (Nat.lt_of_lt_of_le hi h.size)⟩

theorem More_val (sum : B) (s : ByteArray) (w : World) (R : B) (hs : s.size ≤ 9223372036854775807) (hR : Hid (R = ~~~(crcs (~~~sum) (bl s)))) :
    Calls Try.prog 32 #[.int .u32 (sum.toNat : Int), .string s] w fun e w' => e = .returned (.int .u32 (R.toNat : Int)) ∧ Below w.heap.size w w' := by
  have := More_any sum s w hs
  rw [← hR.out] at this
  exact this
theorem More0_val (s : ByteArray) (w : World) (R : B) (hs : s.size ≤ 9223372036854775807) (hR : Hid (R = ~~~(crcs (~~~(0#32)) (bl s)))) :
    Calls Try.prog 32 #[.int .u32 0, .string s] w fun e w' => e = .returned (.int .u32 (R.toNat : Int)) ∧ Below w.heap.size w w' := More_val 0#32 s w R hs hR
theorem Sum_val (s : ByteArray) (w : World) (R : B) (hs : s.size ≤ 9223372036854775807) (hR : Hid (R = ~~~(crcs (~~~(0#32)) (bl s)))) :
    Calls Try.prog 25 #[.string s] w fun e w' => e = .returned (.int .u32 (R.toNat : Int)) ∧ Below w.heap.size w w' := by
  go_enter Try.func25, Try.ntmps25
  go_wp2_with fail
  refine (More0_val s _ R hs hR).mono ?_; rintro e wv_b1 ⟨rfl, b1⟩
  go_wp2_with fail
  go_ret
  exact ⟨rfl, b1⟩
theorem xor_name (x y : B) : ∃ z : B, bits .xor .u32 (x.toNat : Int) (y.toNat : Int) = (z.toNat : Int) ∧ Hid (z = x ^^^ y) := ⟨_, u32_xor_bv x y, rfl⟩

/-! the reference -/
theorem byte_bv (c : UInt8) : (c.toNat : Int) = ((by8 c.toBitVec).toNat : Int) := by
  unfold by8
  rw [BitVec.toNat_setWidth, Nat.mod_eq_of_lt (by have := c.toBitVec.isLt; omega)]; rfl
theorem low_mod (x : B) : (x.toNat : Int) % 2 = if x.getLsbD 0 then 1 else 0 := by
  have h : x.getLsbD 0 = decide (x.toNat % 2 = 1) := by
    rw [BitVec.getLsbD, Nat.testBit_zero]
  rw [h]
  by_cases e : x.toNat % 2 = 1
  · simp [e]; omega
  · simp [e]; omega
theorem half_bv (x : B) : (x.toNat : Int) / (2 : Int) = ((x >>> 1).toNat : Int) := by
  have h := u32_shr_bv x 1
  simpa using h
theorem rst_odd (x : B) (h : x.getLsbD 0 = true) : bits .xor .u32 ((x.toNat : Int) / 2) 3988292384 = ((st x).toNat : Int) := by
  have e := half_bv x
  have e2 : (3988292384 : Int) = (poly.toNat : Int) := rfl
  rw [e, e2, u32_xor_bv]
  unfold st
  rw [h]; rfl
theorem rst_even (x : B) (h : x.getLsbD 0 = false) : (x.toNat : Int) / 2 = ((st x).toNat : Int) := by
  rw [half_bv x]
  unfold st
  rw [h]; rfl
set_option maxRecDepth 100000 in
theorem one_val (r : B) (c : UInt8) (w : World) (R : B) (hR : Hid (R = one r c.toBitVec)) :
    Calls Try.prog 36 #[.int .u32 (r.toNat : Int), .int .u8 (c.toNat : Int)] w fun e w' => e = .returned (.int .u32 (R.toNat : Int)) ∧ w = w' := by
  obtain ⟨r0, hr0, H0⟩ := xor_name r (by8 c.toBitVec)
  have hr0' : bits .xor .u32 (r.toNat : Int) (c.toNat : Int) = (r0.toNat : Int) := by rw [byte_bv]; exact hr0
  have hc : c.toNat < 256 := c.toNat_lt
  have HR2 : Hid (R = sts 8 r0) := by show R = sts 8 r0; rw [H0.out]; exact hR.out
  clear hr0
  go_enter Try.func36, Try.ntmps36
  go_wp2_with fail
  go_loop [0, 5] (fun rv c => ∃ (k : Nat) (x : B), k ≤ 8 ∧ c = .int .i64 k ∧ rv = .int .u32 (x.toNat : Int) ∧ x = sts k r0) (fun _ c => 8 - (intOf c).toNat)
  case atStart => exact ⟨0, r0, by omega, rfl, rfl, rfl⟩
  case round =>
    obtain ⟨k, x, hk, rfl, rfl, hx⟩ := hrel
    have hxl : x.toNat < 4294967296 := x.isLt
    by_cases hk8 : k < 8
    · obtain ⟨y, hy⟩ : ∃ y, y = st x := ⟨_, rfl⟩
      have hyk : y = sts (k + 1) r0 := by rw [hy, sts_next, hx]
      have HY := Lib.hid hyk
      cases hb : x.getLsbD 0 with
      | true =>
        have m1 : (x.toNat : Int) % 2 = 1 := by rw [low_mod, hb]; rfl
        have m2 : (x.toNat : Int).tmod 2 = 1 := by rw [show (x.toNat : Int).tmod 2 = (x.toNat : Int) % 2 from rfl]; exact m1
        have d1 := rst_odd x hb
        rw [← hy] at d1
        clear hx hy hyk hb
        go_wp2_with fail
        go_round
        case rel => exact ⟨k + 1, y, by omega, by go_num, by first | rfl | rw [d1], HY.out⟩
        case measure => simp [intOf]; omega
      | false =>
        have m1 : (x.toNat : Int) % 2 = 0 := by rw [low_mod, hb]; rfl
        have m2 : (x.toNat : Int).tmod 2 = 0 := by rw [show (x.toNat : Int).tmod 2 = (x.toNat : Int) % 2 from rfl]; exact m1
        have d1 := rst_even x hb
        rw [← hy] at d1
        clear hx hy hyk hb
        go_wp2_with fail
        go_round
        case rel => exact ⟨k + 1, y, by omega, by go_num, by first | rfl | rw [d1], HY.out⟩
        case measure => simp [intOf]; omega
    · obtain rfl : k = 8 := by omega
      have e : x = R := by rw [hx, HR2.out]
      subst e
      clear hx
      go_wp2_with fail
      go_ret
      exact ⟨rfl, rfl⟩

theorem flip_bv (x : B) : bits .xor .u32 (x.toNat : Int) 4294967295 = ((~~~x).toNat : Int) := by
  have e : (4294967295 : Int) = ((4294967295#32).toNat : Int) := rfl
  rw [e, u32_xor_bv]
  congr 2
  rw [show (4294967295#32 : BitVec 32) = BitVec.allOnes 32 from by decide]
  exact BitVec.xor_allOnes

set_option maxRecDepth 100000 in
theorem rMore_val (sum : B) (s : ByteArray) (w : World) (R : B) (hs : s.size ≤ 9223372036854775806) (hR : Hid (R = ~~~(crcs (~~~sum) (bl s)))) :
    Calls Try.prog 34 #[.int .u32 (sum.toNat : Int), .string s] w fun e w' => e = .returned (.int .u32 (R.toNat : Int)) ∧ w = w' := by
  obtain ⟨r0, hr0⟩ : ∃ r0, r0 = ~~~sum := ⟨_, rfl⟩
  have hf := flip_bv sum
  rw [← hr0] at hf
  have HR2 : Hid (R = ~~~(crcs r0 (bl s))) := by rw [hr0]; exact hR
  clear hr0 hR
  go_enter Try.func34, Try.ntmps34
  go_wp2_with fail
  clear hf
  go_loop [5, 6] (fun rv c => ∃ (k : Nat) (x : B), k ≤ s.size ∧ c = .int .i64 k ∧ rv = .int .u32 (x.toNat : Int) ∧ x = crcs r0 ((bl s).take k)) (fun _ c => s.size - (intOf c).toNat)
  case atStart => exact ⟨0, r0, by omega, rfl, rfl, rfl⟩
  case round =>
    obtain ⟨k, x, hk, rfl, rfl, hx⟩ := hrel
    by_cases hlt : k < s.size
    · obtain ⟨y, hy⟩ : ∃ y, y = one x s[k].toBitVec := ⟨_, rfl⟩
      have hyk : y = crcs r0 ((bl s).take (k + 1)) := by rw [hy, bl_take s k hlt, crcs_snoc, hx]
      have HY := Lib.hid hyk
      have HY2 := Lib.hid hy
      clear hx hy hyk
      go_wp2_with fail
      refine (one_val x s[k] _ y HY2).mono ?_; rintro e wv_ ⟨rfl, rfl⟩
      go_wp2_with fail
      go_round
      case rel => exact ⟨k + 1, y, by omega, by go_num, rfl, HY.out⟩
      case measure => simp [intOf]; omega
    · obtain rfl : k = s.size := by omega
      have hfx := flip_bv x
      have e : ~~~x = R := by rw [HR2.out, hx, List.take_of_length_le (by rw [bl_length]; omega)]
      rw [e] at hfx
      clear hx e
      go_wp2_with fail
      go_ret
      exact ⟨rfl, rfl⟩
theorem rSum_val (s : ByteArray) (w : World) (R : B) (hs : s.size ≤ 9223372036854775806) (hR : Hid (R = ~~~(crcs (~~~(0#32)) (bl s)))) :
    Calls Try.prog 27 #[.string s] w fun e w' => e = .returned (.int .u32 (R.toNat : Int)) ∧ w = w' := by
  go_enter Try.func27, Try.ntmps27
  go_wp2_with fail
  refine (rMore_val 0#32 s _ R hs hR).mono ?_; rintro e wv_ ⟨rfl, rfl⟩
  go_wp2_with fail
  go_ret
  exact ⟨rfl, rfl⟩
end Go.Proofs.Ytieijelbflkpeaa.G
