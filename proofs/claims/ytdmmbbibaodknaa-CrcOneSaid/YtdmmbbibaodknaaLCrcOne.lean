/- CrcOne: whatever the bytes, the place and the turn, the law answers true and leaves all that was there. No condition but the reach. -/
import Derived.Test.YtdmmbbibaodknaaGCrc2
import Derived.Test.YtdmmbbibaodknaaGBytes
import Derived.Lib.QuietBelow
import Derived.Deep.CutBlock
import Derived.Deep.DeepCutAuto
namespace Go.Proofs.Ytdmmbbibaodknaa.L
open Go.RowKit Go.Proofs.Ytdmmbbibaodknaa.G Go.Proofs.Ytdmmbbibaodknaa.CrcPlain Go.Proofs.Ytdmmbbibaodknaa.CrcPure
set_option linter.unusedVariables false
set_option linter.unusedSimpArgs false

theorem xor_self_zero (a x : UInt8) (h : a ^^^ x = a) : x = 0 := by
  have : a ^^^ (a ^^^ x) = a ^^^ a := by rw [h]
  rw [← UInt8.xor_assoc, UInt8.xor_self, UInt8.zero_xor] at this
  exact this
theorem bl_split (t : ByteArray) (i : Nat) (hi : i < t.size) : bl t = (bl t).take i ++ [t[i].toBitVec] ++ (bl t).drop (i + 1) := by
  rw [← bl_take t i hi, List.take_append_drop]
theorem bl_set (t : ByteArray) (i : Nat) (d : UInt8) (hi : i < t.size) : bl (t.set i d hi) = (bl t).take i ++ [d.toBitVec] ++ (bl t).drop (i + 1) := by
  have e : (t.set i d hi).data.toList = t.data.toList.set i d := Array.toList_set t.data i d hi
  simp only [bl]
  rw [e, List.map_set, List.set_eq_take_append_cons_drop, if_pos (by rw [List.length_map]; exact hi)]
  simp
theorem one_law (t : ByteArray) (i : Nat) (d : UInt8) (hi : i < t.size) (hd : d ≠ t[i]) (r : B) : crcs r (bl (t.set i d hi)) ≠ crcs r (bl t) := by
  intro h
  have e := bl_split t i hi
  rw [bl_set] at h
  have h := h.trans (congrArg (crcs r) e)
  have h2 := burst ((bl t).take i) [d.toBitVec] [t[i].toBitVec] ((bl t).drop (i + 1)) r rfl (by simp) h
  injection h2 with h3 _
  exact hd (UInt8.toBitVec_inj.1 h3)

set_option maxHeartbeats 4000000 in
set_option maxRecDepth 100000 in
theorem one_walk (s : ByteArray) (a : Nat) (ha : a < 65536) (x : UInt8) (w : World) :
    Calls Try.prog 6 #[.string s, .int .u16 a, .int .u8 (x.toNat : Int)] w fun e w' => e = .returned (.bool true) ∧ Below w.heap.size w w' := by
  obtain ⟨t, ht, hmin, h1, h2⟩ := cut_any s 300
  have HM := Lib.hid hmin
  clear hmin
  by_cases h : s.size ≤ 300
  all_goals
    go_enter Try.func6, Try.ntmps6
    go_upto_region 2 with (fail)
    first | rw [h1.out (by omega)] | rw [h2.out (by omega)]
    by_cases h0 : t.size = 0
    · have q1 : ((t.size : Int) == 0) = true := by rw [h0]; rfl
      clear h0
      go_wp2_with fail
      refine (fixed_val _).mono ?_; rintro e w1 ⟨rfl, hb1⟩
      go_wp2_with fail
      go_ret
      exact ⟨rfl, hb1⟩
    · by_cases hx0 : x = 0
      · have q1 : ((t.size : Int) == 0) = false := beq_eq_false_iff_ne.2 (by omega)
        have q2 : ((x.toNat : Int) == 0) = true := by rw [hx0]; rfl
        clear h0 hx0
        go_wp2_with fail
        refine (fixed_val _).mono ?_; rintro e w1 ⟨rfl, hb1⟩
        go_wp2_with fail
        go_ret
        exact ⟨rfl, hb1⟩
      · have q1 : ((t.size : Int) == 0) = false := beq_eq_false_iff_ne.2 (by omega)
        have q2 : ((x.toNat : Int) == 0) = false := beq_eq_false_iff_ne.2 (fun h => hx0 (by
          apply UInt8.toNat_inj.1
          show x.toNat = 0
          omega))
        obtain ⟨W, c, hconv, hat, hb, hlt, hc⟩ := bytes_made (P := Try.prog) w 9 30 5 t Try.underlying9 Try.underlying30 Try.underlying5
        have HX0 := Lib.hid hx0
        have hpos : 0 < t.size := by omega
        clear hx0 h0
        obtain ⟨i, hi⟩ : ∃ i, i = a % t.size := ⟨_, rfl⟩
        have hit : i < t.size := by rw [hi]; exact Nat.mod_lt _ hpos
        have hia : ((a : Int) % (t.size : Int)) = (i : Int) := by rw [hi]; rfl
        obtain ⟨d, hd⟩ : ∃ d, d = t[i] ^^^ x := ⟨_, rfl⟩
        have hxor : bits .xor .u8 (t[i].toNat : Int) (x.toNat : Int) = (d.toNat : Int) := by rw [hd]; exact u8_xor_bv t[i] x
        have hcell := hat.cell i hit
        have hfree := hat.free i hit
        obtain ⟨u, hu⟩ : ∃ u, u = t.set i d hit := ⟨_, rfl⟩
        have husz : u.size = t.size := by rw [hu]; exact Array.size_set (xs := t.data) (v := d) hit
        have hback : (convert 30 9 (.slice (some ⟨w.heap.size, 0, none⟩) t.size c)).run Try.prog (W.setCell ⟨w.heap.size, i, none⟩ (.int .u8 (d.toNat : Int))) = .ok (.string u) (W.setCell ⟨w.heap.size, i, none⟩ (.int .u8 (d.toNat : Int))) := by
          have := bytes_back (P := Try.prog) (hat.set i d hit) 30 9 5 c Try.underlying30 Try.underlying5 Try.underlying9
          rw [← hu, husz] at this
          exact this
        obtain ⟨y, hy⟩ : ∃ y, y = ~~~(crcs (~~~(0#32)) (bl u)) := ⟨_, rfl⟩
        obtain ⟨z, hz⟩ : ∃ z, z = ~~~(crcs (~~~(0#32)) (bl t)) := ⟨_, rfl⟩
        have hne : ((y.toNat : Int) != (z.toNat : Int)) = true := by
          rw [bne, toInt_eq, hy, hz, hu]
          simp only [Bool.not_eq_true', decide_eq_false_iff_not]
          intro h3
          rw [flip_eq] at h3
          exact one_law t i d hit (by rw [hd]; exact fun h4 => HX0.out (xor_self_zero _ _ h4)) _ h3
        have huz : u.size ≤ 300 := by omega
        have HI := Lib.hid hi
        have HD := Lib.hid hd
        have HU := Lib.hid hu
        have HY := Lib.hid hy
        have HZ := Lib.hid hz
        clear hi hd hu hy hz husz
        go_wp2_with fail
        refine (Sum_val u _ y (by omega) HY).mono ?_; rintro e w1 ⟨rfl, hb1⟩
        go_wp2_with fail
        refine (Sum_val t _ z (by omega) HZ).mono ?_; rintro e w2 ⟨rfl, hb2⟩
        go_wp2_with fail
        refine (fixed_val _).mono ?_; rintro e w3 ⟨rfl, hb3⟩
        go_wp2_with fail
        go_ret
        exact ⟨rfl, step_ (step_ (step_ (hb.setCell (Nat.le_refl _) _) hb1) hb2) hb3⟩

theorem CrcOne_walk (a0 : ByteArray) (a1 a2 : Int) (w : World) (w0 : a0.size ≤ 140737488351232) (w1 : (Lit.int .u16 a1).wf = true) (w2 : (Lit.int .u8 a2).wf = true) :
    Calls Try.prog 6 #[.string a0, .int .u16 a1, .int .u8 a2] w fun e w' => e = .returned (.bool true) ∧ Below w.heap.size w w' := by
  obtain ⟨a, rfl, ha⟩ := u16_wf a1 w1
  obtain ⟨x, rfl⟩ := u8_wf a2 w2
  exact one_walk a0 a ha x w
end Go.Proofs.Ytdmmbbibaodknaa.L
