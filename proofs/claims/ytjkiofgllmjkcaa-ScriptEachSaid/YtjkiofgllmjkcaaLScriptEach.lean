/- ScriptEach: whatever the acts, the law answers true. No condition. -/
import Derived.Test.YtjkiofgllmjkcaaSy
import Derived.Test.YtjkiofgllmjkcaaSh
import Derived.Test.YtjkiofgllmjkcaaGFast
import Derived.BigQuiet
namespace Go.Proofs.Ytjkiofgllmjkcaa.L
open Go.RowKit Go.Proofs.Ytjkiofgllmjkcaa.G Go.Proofs.Ytjkiofgllmjkcaa.WordPlain Go.Proofs.Ytjkiofgllmjkcaa.Loose
set_option linter.unusedVariables false
set_option linter.unusedSimpArgs false

/-- six numbers in a block -/
def Six (n0 n5 : Nat) (u : Value) (W : World) : Prop := ∃ B, u = .slice (some ⟨B, 0, none⟩) 6 6 ∧ W.heap[B]? = some (.cells #[.int .i64 (n0 : Int), .int .i64 9, .int .i64 2, .int .i64 1, .int .i64 3, .int .i64 (n5 : Int)] 3 (0, 0))
theorem stab_six (n0 n5 : Nat) : Stab (Six n0 n5) := by
  rintro v w w' ⟨b, h1, h2⟩ hb
  exact ⟨b, h1, (hb.block b (lt_of_rowS h2)).trans h2⟩

theorem encB_one (a : Ac) : encB [a] = a.bytes := by
  apply ByteArray.ext
  apply Array.ext'
  rw [encB_list]
  simp [encL]
set_option maxRecDepth 100000 in
set_option maxHeartbeats 8000000 in
theorem each_main (l0 : List Ac) (v : Value) (w : World) (hv : SA w v l0) (hk0 : ∀ a ∈ l0, a.Kind) :
    Calls Try.prog 7 #[v] w fun e w' => e = .returned (.bool true) ∧ Below w.heap.size w w' := by
  have hC := Cuts_val l0 12 v w (by omega) hv
  have hl12 := cuts_len l0 12
  have hkl := cuts_kind l0 12 hk0
  have hsm := cuts_small l0 12
  obtain ⟨l, hl⟩ : ∃ l, l = cuts l0 12 := ⟨_, rfl⟩
  rw [← hl] at hC hl12 hkl hsm
  obtain ⟨oa0, cap0, rfl⟩ := hv.form
  have HC := Lib.hid hC
  have KL := Lib.hid hkl
  have SM := Lib.hid hsm
  have L12 := Lib.hid hl12
  clear hC hkl hl12 hl hk0 hv hsm
  go_enter Try.func7, Try.ntmps7
  go_wp2_with fail
  refine (HC.out).mono ?_; rintro e w1 ⟨⟨u, rfl, su⟩, b1⟩
  have SU := Lib.hid su
  obtain ⟨oa, cap, hu, -, hx⟩ := su.at
  subst hu
  obtain ⟨n, hn⟩ : ∃ n, n = l.length := ⟨_, rfl⟩
  have N12 : n ≤ 12 := by rw [hn]; exact L12.out
  rw [← hn] at SU ⊢
  have HN := Lib.hid hn
  have HX := Lib.hid hx
  have B1 := Lib.hid b1
  clear su b1 hn hx
  go_wp2_with fail
  go_loopw [3, 4] (fun s i wr => ∃ q : Nat, q ≤ n ∧ i = .int .i64 q ∧ s = .string (encB (l.take q)) ∧ allR (l.take q) ∧ Below w1.heap.size w1 wr) (fun _ i _ => n - (intOf i).toNat)
  case atStart => exact ⟨0, by omega, rfl, rfl, by intro a ha; simp at ha, Below.refl _ _⟩
  case round =>
    obtain ⟨q, hq, rfl, rfl, hall, hbl⟩ := hrel
    have HA := Lib.hid hall
    have BL := Lib.hid hbl
    clear hall hbl
    by_cases hlt : q < n
    · have hql : q < l.length := by have := HN.out; omega
      have hkn : (q : Int) < (n : Int) := by omega
      obtain ⟨b, off, vk, hoa, sv, cs⟩ := HX.out q hql
      have sv := sv.below BL.out (Nat.le_refl _)
      have cs := cs.below BL.out (Nat.le_refl _)
      have SL := SU.out.below BL.out (Nat.le_refl _)
      obtain ⟨hqc, s1⟩ := SL.one q hql
      have hkk := KL.out l[q] (List.getElem_mem hql)
      have sz := SM.out l[q] (List.getElem_mem hql)
      obtain ⟨a, ha⟩ : ∃ a, a = l[q] := ⟨_, rfl⟩
      rw [← ha] at cs sv hkk s1 sz
      have en := Encode_val [a] _ wr (show 1 ≤ 140737488351232 by decide) (fun x hx => by rw [List.mem_singleton.1 hx]; exact hkk) s1
      have w1' : wrap64 ((q : Int) + 1) = ((q + 1 : Nat) : Int) := by rw [show (q : Int) + 1 = ((q + 1 : Nat) : Int) from rfl]; exact (wrpS (q + 1) (by omega)).1
      have hsl := fun W => slice_subS W oa n cap q (q + 1) (by omega) (by omega) hqc
      subst hoa
      rw [show (some (⟨b, off, none⟩ : Addr)).map (·.add (q * 10)) = some ⟨b, off + q * 10, none⟩ from by simp [add_none]] at hsl en
      rw [show q + 1 - q = 1 by omega] at hsl
      have EN := Lib.hid en
      have HAE := Lib.hid ha
      have SLH := Lib.hid SL
      have SV := Lib.hid sv
      have KK := Lib.hid hkk
      have SZ := Lib.hid sz
      clear s1 hkk ha en SL sz
      by_cases hr : a.Right
      · have hra : allR [a] := fun x hx => by rw [List.mem_singleton.1 hx]; exact hr
        have e1 : encE [a] = 0 := if_pos hra
        have e2 : encV [a] = a.bytes := (if_pos hra).trans (encB_one a)
        rw [e1, e2] at EN
        have hask := bytes_asks a hr
        obtain ⟨hk0, hk5⟩ := right_kind a hr
        have hbs := bytes_small a hr
        have hsz := encB_small _ HA.out
        rw [List.length_take] at hsz
        have q1 : (9223372036854775807 < (encB (l.take q)).size + a.bytes.size) = False := eq_false (by omega)
        obtain ⟨z1, z2, z3⟩ := SZ.out
        have w2' : IntKind.i64.wrap (13 + (a.id.size : Int)) = 13 + (a.id.size : Int) := by rw [show 13 + (a.id.size : Int) = ((13 + a.id.size : Nat) : Int) from by omega]; exact (wrpS _ (by omega)).2
        have w3' : IntKind.i64.wrap (13 + (a.id.size : Int) + (a.va.size : Int)) = ((13 + a.id.size + a.va.size : Nat) : Int) := by rw [show 13 + (a.id.size : Int) + (a.va.size : Int) = ((13 + a.id.size + a.va.size : Nat) : Int) from by omega]; exact (wrpS _ (by omega)).2
        have w4' : IntKind.i64.wrap (13 + (a.keep.length : Int)) = ((13 + a.keep.length : Nat) : Int) := by rw [show 13 + (a.keep.length : Int) = ((13 + a.keep.length : Nat) : Int) from by omega]; exact (wrpS _ (by omega)).2
        have HR := Lib.hid hr
        have ASK := Lib.hid hask
        obtain ⟨zs, hzs⟩ : ∃ z, z = a.bytes := ⟨_, rfl⟩
        rw [← hzs] at EN q1 ASK
        have HZS := Lib.hid hzs
        have HK0 := Lib.hid hk0
        have HK5 := Lib.hid hk5
        obtain ⟨n0, hn0⟩ : ∃ m, m = 13 + a.id.size + a.va.size := ⟨_, rfl⟩
        obtain ⟨n5, hn5⟩ : ∃ m, m = 13 + a.keep.length := ⟨_, rfl⟩
        rw [← hn0] at w3'
        rw [← hn5] at w4'
        have HN0 := Lib.hid hn0
        have HN5 := Lib.hid hn5
        clear z1 z2 z3 hra e1 e2 hask hbs hsz hr hzs hk0 hk5 hn0 hn5
        go_wp2_with fail
        refine (EN.out).mono ?_; rintro e w2 ⟨rfl, b2⟩
        have cs2 : ∀ V, Below w2.heap.size w2 V → AtC V b (off + q * 10) a vk := fun V h => (cs.below b2 (Nat.le_refl _)).below h (Nat.le_refl _)
        have BB := Lib.hid (below_step BL.out b2)
        obtain ⟨oa1, cap1, rfl⟩ := sv.form
        have C2 : ∀ V, Below w2.heap.size w2 V → V.cell? ⟨b, off + q * 10 + 2, none⟩ = some (.string a.id) := fun V h => (cs2 V h).2.2.1
        have C3 : ∀ V, Below w2.heap.size w2 V → V.cell? ⟨b, off + q * 10 + 3, none⟩ = some (.string a.va) := fun V h => (cs2 V h).2.2.2.1
        have C7 : ∀ V, Below w2.heap.size w2 V → V.cell? ⟨b, off + q * 10 + 7, none⟩ = some (.slice oa1 a.keep.length cap1) := fun V h => (cs2 V h).2.2.2.2.2.2.2.1
        have C0 := Lib.hid (fun V h => (cs2 V h).1)
        clear b2 cs sv cs2
        go_wp2_with fail
        refine wp_region_loose_fast (by kernel_rfl) (by kernel_rfl) ?_
        refine wpL_det ?_
        apply Exists.intro
        refine ⟨?_, ?_⟩
        · intro vs w' hC hk
          (try simp [Know.add, depOn, Region.binds] at hk)
          go_simp
          exact ⟨Below.refl _ _, rfl⟩
        refine wpL_det ?_
        apply Exists.intro
        refine ⟨?_, ?_⟩
        · intro vs w' hC hk
          (try simp [Know.add, depOn, Region.binds] at hk)
          go_simp
          exact ⟨Below.refl _ _, rfl⟩
        refine wpL_det ?_
        apply Exists.intro
        refine ⟨?_, ?_⟩
        · intro vs w' hC hk
          (try simp [Know.add, depOn, Region.binds] at hk)
          go_simp
          exact ⟨Below.refl _ _, rfl⟩
        refine wpL_det ?_
        apply Exists.intro
        refine ⟨?_, ?_⟩
        · intro vs w' hC hk
          (try simp [Know.add, depOn, Region.binds] at hk)
          go_simp
          exact ⟨Below.refl _ _, rfl⟩
        refine wpL_det ?_
        apply Exists.intro
        refine ⟨?_, ?_⟩
        · intro vs w' hC hk
          (try simp [Know.add, depOn, Region.binds] at hk)
          go_simp
          exact ⟨Below.refl _ _, rfl⟩
        refine wpL_det ?_
        apply Exists.intro
        refine ⟨?_, ?_⟩
        · intro vs w' hC hk
          (try simp [Know.add, depOn, Region.binds] at hk)
          go_simp
          exact ⟨Below.refl _ _, rfl⟩
        refine wpL_det ?_
        apply Exists.intro
        refine ⟨?_, ?_⟩
        · intro vs w' hC hk
          (try simp [Know.add, depOn, Region.binds] at hk)
          go_simp
          exact ⟨Below.refl _ _, rfl⟩
        refine wpL_det ?_
        apply Exists.intro
        refine ⟨?_, ?_⟩
        · intro vs w' hC hk
          (try simp [Know.add, depOn, Region.binds] at hk)
          go_simp
          exact ⟨Below.refl _ _, rfl⟩
        refine wpL_det ?_
        apply Exists.intro
        refine ⟨?_, ?_⟩
        · intro vs w' hC hk
          (try simp [Know.add, depOn, Region.binds] at hk)
          go_simp
          exact ⟨Below.refl _ _, rfl⟩
        refine wpL_det ?_
        apply Exists.intro
        refine ⟨?_, ?_⟩
        · intro vs w' hC hk
          (try simp [Know.add, depOn, Region.binds] at hk)
          go_simp
          exact ⟨Below.refl _ _, rfl⟩
        refine wpL_det ?_
        apply Exists.intro
        refine ⟨?_, ?_⟩
        · intro vs w' hC hk
          (try simp [Know.add, depOn, Region.binds] at hk)
          go_simp
          exact ⟨Below.refl _ _, rfl⟩
        refine wpL_det ?_
        apply Exists.intro
        refine ⟨?_, ?_⟩
        · intro vs w' hC hk
          (try simp [Know.add, depOn, Region.binds] at hk)
          go_simp
          exact ⟨Below.refl _ _, rfl⟩
        refine wpL_det ?_
        apply Exists.intro
        refine ⟨?_, ?_⟩
        · intro vs w' hC hk
          (try simp [Know.add, depOn, Region.binds] at hk)
          go_simp
          exact ⟨Below.refl _ _, rfl⟩
        refine wpL_det ?_
        apply Exists.intro
        refine ⟨?_, ?_⟩
        · intro vs w' hC hk
          (try simp [Know.add, depOn, Region.binds] at hk)
          go_simp
          exact ⟨Below.refl _ _, rfl⟩
        refine wpL_det ?_
        apply Exists.intro
        refine ⟨?_, ?_⟩
        · intro vs w' hC hk
          (try simp [Know.add, depOn, Region.binds] at hk)
          go_simp
          exact ⟨Below.refl _ _, rfl⟩
        refine wpL_det ?_
        apply Exists.intro
        refine ⟨?_, ?_⟩
        · intro vs w' hC hk
          (try simp [Know.add, depOn, Region.binds] at hk)
          go_simp
          exact ⟨Below.refl _ _, rfl⟩
        refine wpL_det ?_
        apply Exists.intro
        refine ⟨?_, ?_⟩
        · intro vs w' hC hk
          (try simp [Know.add, depOn, Region.binds] at hk)
          go_simp
          exact ⟨Below.refl _ _, rfl⟩
        refine wpL_det ?_
        apply Exists.intro
        refine ⟨?_, ?_⟩
        · intro vs w' hC hk
          (try simp [Know.add, depOn, Region.binds] at hk)
          go_simp
          exact ⟨Below.refl _ _, rfl⟩
        refine wpL_det ?_
        apply Exists.intro
        refine ⟨?_, ?_⟩
        · intro vs w' hC hk
          (try simp [Know.add, depOn, Region.binds] at hk)
          go_simp
          exact ⟨Below.refl _ _, rfl⟩
        refine wpL_det ?_
        apply Exists.intro
        refine ⟨?_, ?_⟩
        · intro vs w' hC hk
          (try simp [Know.add, depOn, Region.binds] at hk)
          go_simp
          exact ⟨Below.refl _ _, rfl⟩
        refine wpL_det ?_
        apply Exists.intro
        refine ⟨?_, ?_⟩
        · intro vs w' hC hk
          (try simp [Know.add, depOn, Region.binds] at hk)
          go_simp
          exact ⟨Below.refl _ _, rfl⟩
        refine wpL_det ?_
        apply Exists.intro
        refine ⟨?_, ?_⟩
        · intro vs w' hC hk
          (try simp [Know.add, depOn, Region.binds] at hk)
          go_simp
          exact ⟨Below.refl _ _, rfl⟩
        refine wpL_det ?_
        apply Exists.intro
        refine ⟨?_, ?_⟩
        · intro vs w' hC hk
          (try simp [Know.add, depOn, Region.binds] at hk)
          go_simp
          exact ⟨Below.refl _ _, rfl⟩
        refine wpL_step (Six n0 n5) (stab_six n0 n5) ?_ ?_
        · intro vs w' hC hk
          (try simp [Know.add, depOn, Region.binds] at hk)
          go_simp
          refine ⟨(Below.refl _ _).alloc (Nat.le_refl _) _, _, rfl, ?_⟩
          exact heap_alloc_new _ _
        refine wpL_step (Six n0 n5) (stab_six n0 n5) ?_ ?_
        · intro vs w' hC hk
          have hS : Six n0 n5 (vs 23) w' := hk.2 (by kernel_rfl)
          clear hk
          go_simp
          first | exact ⟨Below.refl _ _, hS⟩ | exact Below.refl _ _
        refine wpL_nil ?_
        intro vs wS hC hk
        obtain ⟨B, hvB, hB⟩ : Six n0 n5 (vs 24) wS := hk.2 (by kernel_rfl)
        clear hk w2' w3' w4' C2 C3 C7
        have BS := Lib.hid (below_step BB.out hC)
        have c0 := C0.out _ hC
        obtain ⟨d0, d1, d2, d3, d4, d5⟩ : wS.cell? ⟨B, 0, none⟩ = some (.int .i64 (n0 : Int)) ∧ wS.cell? ⟨B, 1, none⟩ = some (.int .i64 9) ∧ wS.cell? ⟨B, 2, none⟩ = some (.int .i64 2) ∧ wS.cell? ⟨B, 3, none⟩ = some (.int .i64 1) ∧ wS.cell? ⟨B, 4, none⟩ = some (.int .i64 3) ∧ wS.cell? ⟨B, 5, none⟩ = some (.int .i64 (n5 : Int)) :=
          ⟨(cell_of_row _ _ 0 _ _ _ hB).trans rfl, (cell_of_row _ _ 1 _ _ _ hB).trans rfl, (cell_of_row _ _ 2 _ _ _ hB).trans rfl, (cell_of_row _ _ 3 _ _ _ hB).trans rfl, (cell_of_row _ _ 4 _ _ _ hB).trans rfl, (cell_of_row _ _ 5 _ _ _ hB).trans rfl⟩
        clear hC hB
        have hkc : (a.kind = 0 ∧ zs.size = n0) ∨ (a.kind = 1 ∧ zs.size = 9) ∨ (a.kind = 2 ∧ zs.size = 2) ∨ (a.kind = 3 ∧ zs.size = 1) ∨ (a.kind = 4 ∧ zs.size = 3) ∨ (a.kind = 5 ∧ zs.size = n5) := by
          have h0 := HK0.out
          have h5 := HK5.out
          have ha := ASK.out
          have e0 := HN0.out
          have e5 := HN5.out
          unfold Ac.asks at ha
          by_cases k0 : a.kind = 0
          · rw [if_pos k0] at ha; exact Or.inl ⟨k0, by omega⟩
          rw [if_neg k0] at ha
          by_cases k1 : a.kind = 1
          · rw [if_pos k1] at ha; exact Or.inr (Or.inl ⟨k1, ha⟩)
          rw [if_neg k1] at ha
          by_cases k2 : a.kind = 2
          · rw [if_pos k2] at ha; exact Or.inr (Or.inr (Or.inl ⟨k2, ha⟩))
          rw [if_neg k2] at ha
          by_cases k3 : a.kind = 3
          · rw [if_pos k3] at ha; exact Or.inr (Or.inr (Or.inr (Or.inl ⟨k3, ha⟩)))
          rw [if_neg k3] at ha
          by_cases k4 : a.kind = 4
          · rw [if_pos k4] at ha; exact Or.inr (Or.inr (Or.inr (Or.inr (Or.inl ⟨k4, ha⟩))))
          rw [if_neg k4] at ha
          exact Or.inr (Or.inr (Or.inr (Or.inr (Or.inr ⟨by omega, by omega⟩))))
        have REL := Lib.hid (show encB (l.take (q + 1)) = encB (l.take q) ++ zs from by rw [List.take_succ_eq_append_getElem hql, encB_snoc, ← HAE.out, HZS.out])
        have AR := Lib.hid (allR_take_next l q hql HA.out (by rw [← HAE.out]; exact HR.out))
        rcases hkc with ⟨hk, hz⟩ | ⟨hk, hz⟩ | ⟨hk, hz⟩ | ⟨hk, hz⟩ | ⟨hk, hz⟩ | ⟨hk, hz⟩
        all_goals
          rw [hk] at c0
          rw [hz] at q1
          clear hk
          go_wp2_with fail
          go_roundw
          case rel => exact ⟨q + 1, by omega, by go_num, by rw [REL.out], AR.out, BS.out⟩
          case measure => simp [intOf]; omega
      · have hnr : ¬ allR [a] := fun h => hr (h a (List.mem_singleton.2 rfl))
        have hnl : ¬ allR l := fun h => hr (by rw [HAE.out]; exact h _ (List.getElem_mem hql))
        have e1 : encE [a] = 5 := if_neg hnr
        have e2 : encE l = 5 := if_neg hnl
        rw [e1] at EN
        have el := fun W (h : Below wr.heap.size wr W) => Encode_val l _ W (by have := L12.out; omega) KL.out (SLH.out.below h (Nat.le_refl _))
        rw [e2] at el
        have EL := Lib.hid el
        have HR := Lib.hid hr
        clear el hnr hnl e1 e2 hr
        go_wp2_with fail
        refine (EN.out).mono ?_; rintro e w2 ⟨rfl, b2⟩
        go_wp2_with fail
        have B2 := Lib.hid b2
        refine (EL.out _ B2.out).mono ?_; rintro e w3 ⟨rfl, b3⟩
        have B3 := Lib.hid (below_step B2.out b3)
        have cs := cs.below B3.out (Nat.le_refl _)
        have sv := SV.out.below B3.out (Nat.le_refl _)
        obtain ⟨oa1, cap1, rfl⟩ := sv.form
        obtain ⟨c0, c1, c2, c3, c4, c5, c6, c7, c8, c9⟩ := cs
        have rv := Right_val a _ w3 KK.out.keep sv
        rw [decide_eq_false HR.out] at rv
        have RV := Lib.hid rv
        clear b2 b3 sv rv
        go_wp2_with fail
        refine (RV.out).mono ?_; rintro e w4 ⟨rfl, b4⟩
        go_wp2_with fail
        refine (fixed_val _).mono ?_; rintro e w5 ⟨rfl, b5⟩
        go_wp2_with fail
        go_ret
        exact ⟨rfl, below_step B1.out (below_step BL.out (below_step B3.out (below_step b4 b5)))⟩
    · obtain rfl : q = n := by omega
      have e0 : l.take q = l := List.take_of_length_le (by have := HN.out; omega)
      have hall := HA.out
      rw [e0] at hall ⊢
      have en := Encode_val l _ wr (by have := L12.out; omega) KL.out (SU.out.below BL.out (Nat.le_refl _))
      rw [show encV l = encB l from if_pos hall, show encE l = 0 from if_pos hall] at en
      have q0 : ((encB l).toList == (encB l).toList) = true := beq_self_eq_true _
      have EN := Lib.hid en
      clear en hall e0 hlt
      go_wp2_with fail
      refine (EN.out).mono ?_; rintro e w2 ⟨rfl, b2⟩
      have B2 := Lib.hid (below_step B1.out (below_step BL.out b2))
      clear b2
      go_wp2_with fail
      refine (fixed_val _).mono ?_; rintro e w3 ⟨rfl, b3⟩
      go_wp2_with fail
      go_ret
      exact ⟨rfl, below_step B2.out b3⟩
theorem ScriptEach_walk (v0 : Value) (w : World) (o0 : Row.Opn Try.prog w 22 v0) :
    Calls Try.prog 7 #[v0] w fun e w' => e = .returned (.bool true) ∧ Below w.heap.size w w' := by
  obtain ⟨l, h1, h2, _⟩ := open_acts o0
  exact each_main l v0 w h1 h2
end Go.Proofs.Ytjkiofgllmjkcaa.L
