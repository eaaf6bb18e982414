/- CrcZeros: whatever the two sums and the two counts, the law answers true and leaves all that was there. No condition. -/
import Derived.Test.YtdmmbbibaodknaaGCrc2
import Derived.Test.YtdmmbbibaodknaaGBytes
import Derived.Lib.QuietBelow
namespace Go.Proofs.Ytdmmbbibaodknaa.L
open Go.RowKit Go.Proofs.Ytdmmbbibaodknaa.G Go.Proofs.Ytdmmbbibaodknaa.CrcPlain Go.Proofs.Ytdmmbbibaodknaa.CrcPure
set_option linter.unusedVariables false
set_option linter.unusedSimpArgs false

theorem zs_add (m n : Nat) : zs (m + n) = zs m ++ zs n := by simp [zs]
theorem zeros_eq (a b : B) (n : Nat) : ~~~(crcs (~~~a) (zs n)) = ~~~(crcs (~~~b) (zs n)) ↔ a = b := by
  constructor
  · intro h
    rw [flip_eq] at h
    have := crcs_inj _ _ _ h
    rwa [flip_eq] at this
  · rintro rfl; rfl

set_option maxHeartbeats 4000000 in
set_option maxRecDepth 100000 in
theorem zeros_walk (a b : B) (m n : Nat) (hm : m < 65536) (hn : n < 65536) (w : World) :
    Calls Try.prog 8 #[.int .u32 (a.toNat : Int), .int .u32 (b.toNat : Int), .agg #[.int .u16 m, .int .u16 n]] w fun e w' => e = .returned (.bool true) ∧ Below w.heap.size w w' := by
  obtain ⟨p, hp⟩ : ∃ p, p = m % 301 := ⟨_, rfl⟩
  obtain ⟨q, hq⟩ : ∃ q, q = n % 301 := ⟨_, rfl⟩
  have hp1 : (m : Int).tmod 301 = (p : Int) := by rw [hp, Int.tmod_eq_emod_of_nonneg (by omega)]; rfl
  have hq1 : (n : Int).tmod 301 = (q : Int) := by rw [hq, Int.tmod_eq_emod_of_nonneg (by omega)]; rfl
  have wm : IntKind.i64.wrap (m : Int) = (m : Int) := IntWalk.i64_in _ (by omega)
  have wn : IntKind.i64.wrap (n : Int) = (n : Int) := IntWalk.i64_in _ (by omega)
  have hpb : p ≤ 300 := by omega
  have hqb : q ≤ 300 := by omega
  clear hp hq
  obtain ⟨x, hx⟩ : ∃ x, x = ~~~(crcs (~~~a) (zs (zn p))) := ⟨_, rfl⟩
  obtain ⟨y, hy⟩ : ∃ y, y = ~~~(crcs (~~~b) (zs (zn p))) := ⟨_, rfl⟩
  obtain ⟨z, hz⟩ : ∃ z, z = ~~~(crcs (~~~a) (zs (zn ((p : Int) + (q : Int))))) := ⟨_, rfl⟩
  obtain ⟨v, hv⟩ : ∃ v, v = ~~~(crcs (~~~a) (zs (zn 1))) := ⟨_, rfl⟩
  have ep : zn p = p := by unfold zn; omega
  have eq_ : zn q = q := by unfold zn; omega
  have epq : zn ((p : Int) + (q : Int)) = p + q := by unfold zn; omega
  have Z2 : Hid (z = ~~~(crcs (~~~x) (zs (zn q)))) := by
    show z = _
    rw [hz, hx, epq, ep, eq_, zs_add, crcs_append, BitVec.not_not]
  have V2 : Hid (v = ~~~(crcs (~~~a) (bl ⟨#[0]⟩))) := hv
  have t1 : ((((x.toNat : Int) == (y.toNat : Int)) == ((a.toNat : Int) == (b.toNat : Int)))) = true := by
    rw [toInt_eq, toInt_eq, hx, hy]
    have := zeros_eq a b (zn p)
    by_cases e : a = b
    · simp [e]
    · have h2 : ¬ (~~~(crcs (~~~a) (zs (zn p))) = ~~~(crcs (~~~b) (zs (zn p)))) := fun h3 => e (this.1 h3)
      rw [decide_eq_false e, decide_eq_false h2]; rfl
  have HX := Lib.hid hx
  have HY := Lib.hid hy
  have HZ := Lib.hid hz
  have HV := Lib.hid hv
  clear hx hy hz hv ep eq_ epq
  go_enter Try.func8, Try.ntmps8
  go_wp2_with fail
  go_quiet (fail)
  clear hp1 hq1 wm wn
  have hb0 : Below w.heap.size w ((w.alloc (.cells #[.int .u16 m, .int .u16 n] 34)).drewN nq) := by
    have h := (Below.refl w.heap.size w).alloc (Nat.le_refl _) (.cells #[.int .u16 (m : Int), .int .u16 (n : Int)] 34)
    exact ⟨h.os, h.tape, h.output, h.size, h.block⟩
  go_wp2_with fail
  refine (Zeros_val a _ _ x HX).mono ?_; rintro e w1 ⟨rfl, hb1⟩
  go_wp2_with fail
  refine (Zeros_val x _ _ z Z2).mono ?_; rintro e w2 ⟨rfl, hb2⟩
  go_wp2_with fail
  refine (Zeros_val a _ _ z HZ).mono ?_; rintro e w3 ⟨rfl, hb3⟩
  go_wp2_with fail
  refine (Zeros_val a _ _ x HX).mono ?_; rintro e w4 ⟨rfl, hb4⟩
  go_wp2_with fail
  refine (Zeros_val b _ _ y HY).mono ?_; rintro e w5 ⟨rfl, hb5⟩
  go_wp2_with fail
  refine (Zeros_val a _ _ v HV).mono ?_; rintro e w6 ⟨rfl, hb6⟩
  go_wp2_with fail
  refine (More_val a _ _ v (by decide) V2).mono ?_; rintro e w7 ⟨rfl, hb7⟩
  go_wp2_with fail
  refine (fixed_val _).mono ?_; rintro e w8 ⟨rfl, hb8⟩
  go_wp2_with fail
  go_ret
  exact ⟨rfl, step_ (step_ (step_ (step_ (step_ (step_ (step_ (step_ hb0 hb1) hb2) hb3) hb4) hb5) hb6) hb7) hb8⟩

theorem CrcZeros_walk (a0 a1 : Int) (a2 : List Int) (w : World) (w0 : (Lit.int .u32 a0).wf = true) (w1 : (Lit.int .u32 a1).wf = true) (l2 : a2.length = 2) (w2 : ∀ z ∈ a2, (Lit.int .u16 z).wf = true) :
    Calls Try.prog 8 #[.int .u32 a0, .int .u32 a1, .agg (a2.map (Value.int .u16)).toArray] w fun e w' => e = .returned (.bool true) ∧ Below w.heap.size w w' := by
  obtain ⟨x, rfl⟩ := of_wf a0 w0
  obtain ⟨y, rfl⟩ := of_wf a1 w1
  match a2, l2, w2 with
  | [c, d], _, w2 =>
    obtain ⟨m, rfl, hm⟩ := u16_wf c (w2 c (by simp))
    obtain ⟨n, rfl, hn⟩ := u16_wf d (w2 d (by simp))
    exact zeros_walk x y m n hm hn w
end Go.Proofs.Ytdmmbbibaodknaa.L
