/- CrcOver: whatever the two texts, the law answers true and leaves all that was there. No condition but the reach. -/
import Derived.Test.YtdmmbbibaodknaaGCrc2
import Derived.Lib.QuietBelow
namespace Go.Proofs.Ytdmmbbibaodknaa.L
open Go.RowKit Go.Proofs.Ytdmmbbibaodknaa.G Go.Proofs.Ytdmmbbibaodknaa.CrcPlain Go.Proofs.Ytdmmbbibaodknaa.CrcPure
set_option linter.unusedVariables false
set_option linter.unusedSimpArgs false

theorem run_min3 {P : Program} (ats : Array TypeId) (ty : TypeId) (a b c : Int) (W : World) :
    (Builtin.min_ ats ty #[.int .i64 a, .int .i64 b, .int .i64 c]).run P W = .ok (.int .i64 (min (min a b) c)) W := by
  have h : ∀ x y : Int, (if y < x then y else x) = min x y := by intro x y; split <;> omega
  simp [Builtin.min_, Builtin.min2, List.foldlM_cons, List.foldlM_nil, h]

theorem u8_xor_bv (x y : UInt8) : bits .xor .u8 (x.toNat : Int) (y.toNat : Int) = ((x ^^^ y).toNat : Int) := by
  have h8 : ∀ z : BitVec 8, BitVec.ofInt 8 (z.toNat : Int) = z := fun z => by rw [BitVec.ofInt_natCast, BitVec.ofNat_toNat, BitVec.setWidth_eq]
  have e1 : (x.toNat : Int) = (x.toBitVec.toNat : Int) := rfl
  have e2 : (y.toNat : Int) = (y.toBitVec.toNat : Int) := rfl
  rw [e1, e2]
  show IntKind.u8.wrap ((BitVec.ofInt 8 _ ^^^ BitVec.ofInt 8 _).toNat : Int) = _
  rw [h8, h8]
  have := (x.toBitVec ^^^ y.toBitVec).isLt
  rw [IntWalk.u8_in _ (by omega)]
  rfl

theorem conv_one (W : World) (c : UInt8) : (convert 30 9 (.slice (some ⟨W.heap.size, 0, none⟩) 1 1)).run Try.prog ((W.alloc (.cells #[.int .u8 (c.toNat : Int)] 5)).drew) = .ok (.string ⟨#[c]⟩) ((W.alloc (.cells #[.int .u8 (c.toNat : Int)] 5)).drew) := by
  have h := run_convert_bytes_arg (P := Try.prog) ((W.alloc (.cells #[.int .u8 (c.toNat : Int)] 5)).drew) 30 5 Try.underlying30 Try.underlying5 W.heap.size 0 1 1 [(c.toNat : Int)] rfl (by
    intro i hi
    obtain rfl : i = 0 := by omega
    exact cell_of_row (W.alloc (.cells #[.int .u8 (c.toNat : Int)] 5)) _ 0 _ _ _ (heap_alloc_new W _)) 9 Try.underlying9
  rw [h]
  simp [strOfNums]

/-- the bytes laid over each other, of the first k -/
def over (s t : ByteArray) (k : Nat) : ByteArray := ⟨((s.data.toList.take k).zipWith (· ^^^ ·) (t.data.toList.take k)).toArray⟩
theorem over_next (s t : ByteArray) (k : Nat) (hs : k < s.size) (ht : k < t.size) : over s t k ++ ⟨#[s[k] ^^^ t[k]]⟩ = over s t (k + 1) := by
  apply ByteArray.ext
  rw [ByteArray.data_append]
  simp only [over]
  rw [List.take_succ_eq_append_getElem (by exact hs), List.take_succ_eq_append_getElem (by exact ht), List.zipWith_append (by simp only [List.length_take]; have h1 : s.size = s.data.toList.length := rfl; have h2 : t.size = t.data.toList.length := rfl; omega)]
  simp only [List.zipWith_cons_cons, List.zipWith_nil_left, ← List.append_toArray]
  rfl
theorem over_size (s t : ByteArray) (k : Nat) (hs : k ≤ s.size) (ht : k ≤ t.size) : (over s t k).size = k := by
  have h1 : s.size = s.data.toList.length := rfl
  have h2 : t.size = t.data.toList.length := rfl
  simp only [over, ByteArray.size, List.size_toArray, List.length_zipWith, List.length_take]
  omega

theorem bl_over (s t : ByteArray) (n : Nat) : bl (over s t n) = List.zipWith (· ^^^ ·) (bl (s.extract 0 n)) (bl (t.extract 0 n)) := by
  have e : ∀ u : ByteArray, bl (u.extract 0 n) = (u.data.toList.take n).map (·.toBitVec) := by
    intro u
    simp only [bl, ByteArray.data_extract, Array.toList_extract, List.extract_eq_drop_take', List.drop_zero, Nat.sub_zero]
  rw [e, e]
  simp only [bl, over]
  generalize s.data.toList.take n = l
  generalize t.data.toList.take n = m
  induction l generalizing m with
  | nil => simp
  | cons a l ih =>
    cases m with
    | nil => simp
    | cons b m => simp only [List.zipWith_cons_cons, List.map_cons]; rw [ih]; rfl
theorem over_law (l m : List (BitVec 8)) (h : l.length = m.length) (n : Nat) (hn : n = l.length) :
    ~~~(crcs (~~~(0#32)) l) ^^^ ~~~(crcs (~~~(0#32)) m) ^^^ ~~~(crcs (~~~(0#32)) (zs n)) = ~~~(crcs (~~~(0#32)) (List.zipWith (· ^^^ ·) l m)) := by
  have hz : ∀ k : List (BitVec 8), List.zipWith (· ^^^ ·) k (zs k.length) = k := by
    intro k
    induction k with
    | nil => rfl
    | cons a k ih =>
      have : zs (a :: k).length = 0#8 :: zs k.length := rfl
      rw [this, List.zipWith_cons_cons, ih, BitVec.xor_zero]
  rw [← xor3, ← crcs_xor l m _ _ h]
  have hl : (List.zipWith (· ^^^ ·) l m).length = (zs n).length := by simp [zs]; omega
  rw [← crcs_xor _ _ _ _ hl]
  have e : zs n = zs (List.zipWith (fun x1 x2 => x1 ^^^ x2) l m).length := by congr 1; simp; omega
  rw [e, hz, BitVec.xor_self, BitVec.zero_xor]

set_option maxHeartbeats 4000000 in
set_option maxRecDepth 100000 in
theorem CrcOver_walk (s t : ByteArray) (w : World) (hs : s.size ≤ 140737488351232) (ht : t.size ≤ 140737488351232) :
    Calls Try.prog 5 #[.string s, .string t] w fun e w' => e = .returned (.bool true) ∧ Below w.heap.size w w' := by
  obtain ⟨n, hn⟩ : ∃ n : Nat, n = min (min s.size t.size) 300 := ⟨_, rfl⟩
  have hmin : ∀ W, (Builtin.min_ #[3, 3, 3] 3 #[.int .i64 (s.size : Int), .int .i64 (t.size : Int), .int .i64 300]).run Try.prog W = .ok (.int .i64 (n : Int)) W := by
    intro W
    rw [run_min3, show min (min (s.size : Int) (t.size : Int)) 300 = (n : Int) from by omega]
  have hn1 : n ≤ s.size := by omega
  have hn2 : n ≤ t.size := by omega
  have hn3 : n ≤ 300 := by omega
  obtain ⟨p1, hp1⟩ : ∃ p, p = s.extract 0 n := ⟨_, rfl⟩
  obtain ⟨p2, hp2⟩ : ∃ p, p = t.extract 0 n := ⟨_, rfl⟩
  have hz1 : p1.size = n := by rw [hp1, ByteArray.size_extract]; omega
  have hz2 : p2.size = n := by rw [hp2, ByteArray.size_extract]; omega
  have hs1 : p1.size ≤ 300 := by omega
  have hs2 : p2.size ≤ 300 := by omega
  obtain ⟨x1, hx1⟩ : ∃ x, x = ~~~(crcs (~~~(0#32)) (bl p1)) := ⟨_, rfl⟩
  obtain ⟨x2, hx2⟩ : ∃ x, x = ~~~(crcs (~~~(0#32)) (bl p2)) := ⟨_, rfl⟩
  obtain ⟨x3, hx3⟩ : ∃ x, x = ~~~(crcs (~~~(0#32)) (zs (zn n))) := ⟨_, rfl⟩
  obtain ⟨x4, hx4⟩ : ∃ x, x = ~~~(crcs (~~~(0#32)) (bl (over s t n))) := ⟨_, rfl⟩
  obtain ⟨d1, hd1, D1⟩ := xor_name x1 x2
  have hd2 : bits .xor .u32 (d1.toNat : Int) (x3.toNat : Int) = (x4.toNat : Int) := by
    have e : zn n = n := by unfold zn; omega
    rw [u32_xor_bv, D1.out, hx1, hx2, hx3, hx4, e, bl_over, ← hp1, ← hp2, over_law (bl p1) (bl p2) (by rw [bl_length, bl_length]; omega) n (by rw [bl_length]; omega)]
  have X1 := Lib.hid hx1
  have X2 := Lib.hid hx2
  have X3 := Lib.hid hx3
  have X4 := Lib.hid hx4
  have P1 := Lib.hid hp1
  have P2 := Lib.hid hp2
  clear hx1 hx2 hx3 hx4 hp1 hp2 hz1 hz2
  clear hn
  go_enter Try.func5, Try.ntmps5
  go_wp2_with fail
  clear hmin
  go_loopw [6, 7] (fun v i wr => ∃ (j : Nat) (y : ByteArray), j ≤ n ∧ i = .int .i64 j ∧ v = .string y ∧ y = over s t j ∧ Below w.heap.size w wr) (fun _ i _ => n - (intOf i).toNat)
  case atStart => exact ⟨0, _, by omega, rfl, rfl, by simp [over], Below.refl _ _⟩
  case round =>
    obtain ⟨j, y, hj, rfl, rfl, hy, hb⟩ := hrel
    have hys : y.size = j := by rw [hy, over_size s t j (by omega) (by omega)]
    have hyb : y.size ≤ 300 := by omega
    have HY := Lib.hid hy
    clear hy hys
    by_cases hlt : j < n
    · have hjs : j < s.size := by omega
      have hjt : j < t.size := by omega
      obtain ⟨c, hc⟩ : ∃ c, c = s[j] ^^^ t[j] := ⟨_, rfl⟩
      have hx8 : bits .xor .u8 (s[j].toNat : Int) (t[j].toNat : Int) = (c.toNat : Int) := by rw [hc]; exact u8_xor_bv s[j] t[j]
      have HC := Lib.hid hc
      clear hc
      have hconv := conv_one wr c
      have hcc : (9223372036854775807 < y.size + 1) = False := eq_false (by omega)
      go_wp2_with fail
      go_region
      all_goals
        go_wp2_with fail
        go_roundw
        case rel => exact ⟨j + 1, _, by omega, by go_num, rfl, by rw [HC.out, HY.out, over_next s t j hjs hjt], (hb.alloc hb.size _).drew⟩
        case measure => simp [intOf]; omega
    · obtain rfl : j = n := by omega
      go_wp2_with fail
      have Y4 : Hid (x4 = ~~~(crcs (~~~(0#32)) (bl y))) := by show x4 = _; rw [HY.out]; exact X4.out
      refine wp_region_quiet_below (by kernel_rfl) (by kernel_rfl) ?_
      repeat (quiet_step (fail))
      rw [← P1.out]
      quiet_step ((go_at_call 10; exact Calls.regrown_of (Sum_val p1 _ x1 (by omega) X1)))
      repeat (quiet_step (fail))
      rw [← P2.out]
      quiet_step ((go_at_call 10; exact Calls.regrown_of (Sum_val p2 _ x2 (by omega) X2)))
      repeat (quiet_step (fail))
      quiet_step ((go_at_call 14; exact Calls.regrown_of (Zeros0_val _ _ x3 X3)))
      repeat (quiet_step (fail))
      quiet_step ((go_at_call 10; exact Calls.regrown_of (Sum_val y _ x4 (by omega) Y4)))
      repeat (quiet_step (fail))
      quiet_step ((go_at_call 16; exact Calls.regrown_of (fixed_val _)))
      repeat (quiet_step (fail))
      refine wpQuiet_nil ?_
      intro _ hw'
      obtain ⟨⟨dq, osq⟩, hw''⟩ := hw'
      subst hw''
      go_wp2_with fail
      go_ret
      exact ⟨rfl, step_ hb (below_regrown wr dq osq)⟩
end Go.Proofs.Ytdmmbbibaodknaa.L
