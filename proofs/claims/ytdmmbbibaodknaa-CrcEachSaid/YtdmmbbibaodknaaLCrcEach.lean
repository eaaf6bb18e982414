/- CrcEach: whatever the two sums and the bytes, the law answers true and leaves all that was there. No condition but the reach. -/
import Derived.Test.YtdmmbbibaodknaaGCrc2
namespace Go.Proofs.Ytdmmbbibaodknaa.L
open Go.RowKit Go.Proofs.Ytdmmbbibaodknaa.G Go.Proofs.Ytdmmbbibaodknaa.CrcPlain Go.Proofs.Ytdmmbbibaodknaa.CrcPure
set_option linter.unusedVariables false
set_option linter.unusedSimpArgs false

theorem each_eq (a b : B) (l : List (BitVec 8)) : (decide (a = b) == decide (~~~(crcs (~~~a) l) = ~~~(crcs (~~~b) l))) = true := by
  have h : (a = b) ↔ (~~~(crcs (~~~a) l) = ~~~(crcs (~~~b) l)) := by
    constructor
    · rintro rfl; rfl
    · intro h
      rw [flip_eq] at h
      have := crcs_inj l _ _ h
      rwa [flip_eq] at this
  by_cases e : a = b
  · simp [e]
  · have h2 : ¬ (~~~(crcs (~~~a) l) = ~~~(crcs (~~~b) l)) := fun h3 => e (h.2 h3)
    simp [e, h2]

theorem each_xor (a b : B) (s : ByteArray) (n : Nat) (hn : n = s.size) :
    ~~~(crcs (~~~a) (bl s)) ^^^ ~~~(crcs (~~~b) (bl s)) = ~~~(crcs (~~~(a ^^^ b)) (zs n)) ^^^ ~~~(crcs (~~~(0#32)) (zs n)) := by
  have h1 : ∀ x y : B, ~~~x ^^^ ~~~y = x ^^^ y := by
    intro x y
    apply BitVec.eq_of_getLsbD_eq
    intro i hi
    simp [hi]
  rw [h1, h1]
  have hl : (bl s).length = (bl s).length := rfl
  have e1 := crcs_xor (bl s) (bl s) (~~~a) (~~~b) rfl
  have e2 := crcs_xor (zs n) (zs n) (~~~(a ^^^ b)) (~~~(0#32)) rfl
  have z1 : List.zipWith (· ^^^ ·) (bl s) (bl s) = zs n := by
    have : ∀ l : List (BitVec 8), List.zipWith (· ^^^ ·) l l = zs l.length := by
      intro l
      induction l with
      | nil => rfl
      | cons c l ih => rw [List.zipWith_cons_cons, ih, BitVec.xor_self]; rfl
    rw [this, bl_length, hn]
  have z2 : List.zipWith (· ^^^ ·) (zs n) (zs n) = zs n := by simp [zs]
  rw [z1] at e1
  rw [z2] at e2
  rw [← e1, ← e2, h1, h1]
  congr 1
  simp

set_option maxRecDepth 100000 in
theorem each_walk (a b : B) (s : ByteArray) (w : World) (hs : s.size ≤ 140737488351232) :
    Calls Try.prog 7 #[.int .u32 (a.toNat : Int), .int .u32 (b.toNat : Int), .string s] w fun e w' => e = .returned (.bool true) ∧ Below w.heap.size w w' := by
  obtain ⟨t, ht, _, h1, h2⟩ := cut_any s 100
  obtain ⟨x, hx⟩ : ∃ x, x = ~~~(crcs (~~~a) (bl t)) := ⟨_, rfl⟩
  obtain ⟨y, hy⟩ : ∃ y, y = ~~~(crcs (~~~b) (bl t)) := ⟨_, rfl⟩
  obtain ⟨c, hc, HC⟩ := xor_name a b
  obtain ⟨z, hz⟩ : ∃ z, z = zstr t.size := ⟨_, rfl⟩
  obtain ⟨p, hp⟩ : ∃ p, p = ~~~(crcs (~~~c) (bl z)) := ⟨_, rfl⟩
  obtain ⟨q, hq⟩ : ∃ q, q = ~~~(crcs (~~~(0#32)) (bl z)) := ⟨_, rfl⟩
  obtain ⟨d, hd, HD⟩ := xor_name x y
  have hpq : bits .xor .u32 (p.toNat : Int) (q.toNat : Int) = (d.toNat : Int) := by
    rw [u32_xor_bv, hp, hq, hz, bl_zstr, HC.out, ← each_xor a b t _ rfl, HD.out, hx, hy]
  have t1 : (((a.toNat : Int) == (b.toNat : Int)) == ((x.toNat : Int) == (y.toNat : Int))) = true := by rw [toInt_eq, toInt_eq, hx, hy]; exact each_eq a b (bl t)
  have hzs : z.size ≤ 100 := by rw [hz, zstr_size]; exact ht
  have HX := Lib.hid hx
  have HY := Lib.hid hy
  have HP := Lib.hid hp
  have HQ := Lib.hid hq
  have HZ := Lib.hid hz
  clear hx hy hp hq hz
  by_cases h : s.size ≤ 100
  all_goals
    go_enter Try.func7, Try.ntmps7
    go_wp2_with fail
    first | rw [h1.out (by omega)] | rw [h2.out (by omega)]
    clear h
    refine (More_val a t _ x (by omega) HX).mono ?_; rintro e w1 ⟨rfl, hb1⟩
    go_wp2_with fail
    refine (More_val b t _ y (by omega) HY).mono ?_; rintro e w2 ⟨rfl, hb2⟩
    go_wp2_with fail
    refine (zeros_val t.size _ z (by omega) HZ).mono ?_; rintro e w3 ⟨rfl, hb3⟩
    go_wp2_with fail
    refine (More_val c z _ p (by omega) HP).mono ?_; rintro e w4 ⟨rfl, hb4⟩
    go_wp2_with fail
    refine (zeros_val t.size _ z (by omega) HZ).mono ?_; rintro e w5 ⟨rfl, hb5⟩
    go_wp2_with fail
    refine (More0_val z _ q (by omega) HQ).mono ?_; rintro e w6 ⟨rfl, hb6⟩
    go_wp2_with fail
    refine (fixed_val _).mono ?_; rintro e w7 ⟨rfl, hb7⟩
    go_wp2_with fail
    go_ret
    exact ⟨rfl, step_ (step_ (step_ (step_ (step_ (step_ hb1 hb2) hb3) hb4) hb5) hb6) hb7⟩
end Go.Proofs.Ytdmmbbibaodknaa.L
namespace Go.Proofs.Ytdmmbbibaodknaa.L
open Go.RowKit Go.Proofs.Ytdmmbbibaodknaa.G Go.Proofs.Ytdmmbbibaodknaa.CrcPlain Go.Proofs.Ytdmmbbibaodknaa.CrcPure
theorem CrcEach_walk (a0 a1 : Int) (a2 : ByteArray) (w : World) (w0 : (Lit.int .u32 a0).wf = true) (w1 : (Lit.int .u32 a1).wf = true) (w2 : a2.size ≤ 140737488351232) :
    Calls Try.prog 7 #[.int .u32 a0, .int .u32 a1, .string a2] w fun e w' => e = .returned (.bool true) ∧ Below w.heap.size w w' := by
  obtain ⟨x, rfl⟩ := of_wf a0 w0
  obtain ⟨y, rfl⟩ := of_wf a1 w1
  exact each_walk x y a2 w w2
end Go.Proofs.Ytdmmbbibaodknaa.L
