/- The document's reader: Decode. -/
import Derived.Test.YtjkiofgllmjkcaaT8
import Derived.Test.YtjkiofgllmjkcaaGFast
import Derived.BigQuiet
namespace Go.Proofs.Ytjkiofgllmjkcaa.G
open Go.RowKit Go.Proofs.Ytjkiofgllmjkcaa.WordPlain Go.Proofs.Ytjkiofgllmjkcaa.Loose
set_option linter.unusedVariables false
set_option linter.unusedSimpArgs false


theorem mo_ok (s : ByteArray) (q : Rst) (m : Nat) (hq : q.e = 0) (h : (mo s q m).e = 0) : (mo s q m).p = q.p + 1 := by
  rw [mo_p]
  unfold tk
  rw [if_pos hq]
  by_cases hp : q.p + 1 ≤ s.size
  · rw [if_pos hp]
  · exfalso
    unfold mo at h
    have e6 : (tk s q 1).e = 6 := by unfold tk; rw [if_pos hq, if_neg hp]
    rw [if_neg (fun x => by rw [e6] at x; exact absurd x.1 (by decide)), e6] at h
    cases h
theorem tk_ge (s : ByteArray) (q : Rst) (n : Nat) : q.p ≤ (tk s q n).p := by
  unfold tk; split
  · split
    · exact Nat.le_add_right _ _
    · exact Nat.le_refl _
  · exact Nat.le_refl _
theorem mo_ge (s : ByteArray) (q : Rst) (m : Nat) : q.p ≤ (mo s q m).p := by rw [mo_p]; exact tk_ge s q 1
theorem bo_ge (s : ByteArray) : ∀ (c : Nat) (q : Rst) (K : List Bool), q.p ≤ (bo s c q K).1.p
  | 0, q, K => Nat.le_refl _
  | c + 1, q, K => by
    unfold bo
    split
    · exact Nat.le_trans (mo_ge s q 1) (bo_ge s c _ _)
    · exact Nat.le_refl _
theorem oneA_gt (s : ByteArray) (q : Rst) (hq : q.e = 0) (h : (oneA s q).2.e = 0) : q.p < (oneA s q).2.p := by
  have h5 : (mo s q 5).e = 0 := by
    by_cases he : (mo s q 5).e = 0
    · exact he
    · unfold oneA at h; simp only [if_pos he] at h; exact h
  have h6 : (mo s q 5).p ≤ (oneA s q).2.p := by
    unfold oneA
    simp only
    repeat' split
    all_goals first | exact Nat.le_refl _ | exact tk_ge _ _ _ | skip
    · exact Nat.le_trans (mo_ge _ _ 255) (Nat.le_trans (mo_ge _ _ 255) (Nat.le_trans (tk_ge _ _ _) (Nat.le_trans (mo_ge _ _ 255) (Nat.le_trans (tk_ge _ _ _) (Nat.le_trans (tk_ge _ _ 8) (mo_ge _ _ 255))))))
    · exact Nat.le_trans (mo_ge _ _ 255) (Nat.le_trans (bo_ge _ _ _ _) (Nat.le_trans (tk_ge _ _ 2) (Nat.le_trans (mo_ge _ _ 128) (tk_ge _ _ 8))))
  rw [mo_ok s q 5 hq h5] at h6
  omega
/-- the bytes that are left -/
def leftR (R : Nat) (s : ByteArray) (wr : World) : Nat := match wr.cell? ⟨R, 1, none⟩ with | some (.int .i64 p) => s.size - p.toNat | _ => 0
theorem RdR.left {wr : World} {R : Nat} {s : ByteArray} {q : Rst} (h : RdR wr R s q) : leftR R s wr = s.size - q.p := by
  unfold leftR
  rw [(rd_cells h).2.1]
  simp
theorem own_one {w : World} {B : Nat} {e : TypeId} {size n : Nat} {v : Value} {xs : List Value} (h : w.ownsRow B e size v n xs) : ∃ oa cap, v = .slice oa n cap := by
  rcases h.2 with ⟨h, h0⟩ | ⟨b, cap, cur, h, _⟩
  · exact ⟨none, 0, by rw [h, h0]⟩
  · exact ⟨_, cap, h⟩
theorem rd_start (w : World) (s : ByteArray) : RdR (w.alloc (.cells #[.string s, .int .i64 0, .int .i64 0] 73)) w.heap.size s ⟨0, 0⟩ := heap_alloc_new w _
set_option maxRecDepth 100000 in
set_option maxHeartbeats 8000000 in
theorem rDecode_val (s : ByteArray) (S : List UInt8) (hS : s = ⟨S.toArray⟩) (w : World) (hs : s.size ≤ 1000000) :
    Calls Try.prog 14 #[.string s] w fun e w' => (∃ v, e = .returned (.tuple #[v, .int .i64 (decX s)]) ∧ SA w' v (decA s)) ∧ Below w.heap.size w w' ∧ ∀ a ∈ decA s, a.Kind := by
  have hSS : s.data.toList = S := by rw [hS]
  have hsz : s.size = S.length := by rw [hS]; rfl
  have rd0 := rd_start w s
  have HRD0 := Lib.hid rd0
  have HSS := Lib.hid hSS
  have HSE := Lib.hid hS
  have HSZ := Lib.hid hsz
  have HS := Lib.hid hs
  clear hSS hsz rd0 hS hs
  go_enter Try.func14, Try.ntmps14
  go_wp2_with fail
  have h0 : Rdi w ((w.alloc (.cells #[.string s, .int .i64 0, .int .i64 0] 73)).alloc (.cells #[] 47)) s ⟨0, 0⟩ (.slice (some ⟨w.heap.size + 1, 0, none⟩) 0 0) [] [] := by
    have b1 := alloc_below w (.cells #[.string s, .int .i64 0, .int .i64 0] 73)
    have b2 := alloc_below (w.alloc (.cells #[.string s, .int .i64 0, .int .i64 0] 73)) (.cells #[] 47)
    refine ⟨HRD0.out.below b2, stepQ b1 b2, ⟨rfl, Or.inr ⟨w.heap.size + 1, 0, #[], rfl, Nat.le_refl _, ?_, Nat.le_refl _, by simp [maxLen], rfl, rfl⟩⟩, rfl, (fun i h => absurd h (Nat.not_lt_zero _)), (fun i h => absurd h (Nat.not_lt_zero _))⟩
    have := heap_alloc_new (w.alloc (.cells #[.string s, .int .i64 0, .int .i64 0] 73)) (.cells #[] 47)
    rwa [alloc_sizeQ] at this
  have H0 := Lib.hid h0
  clear h0 HRD0
  go_loopw [5] (fun v wr => ∃ (q : Rst) (L : List UInt8) (lv : Value) (acc : List Ac) (vks : List Value), lv = v ∧ Rdi w wr s q lv acc vks ∧ Sim s q L ∧ Rd S acc L ∧ acc.length + L.length ≤ S.length ∧ (∀ a ∈ acc, a.Kind)) (fun _ wr => leftR w.heap.size s wr)
  case atStart => exact ⟨⟨0, 0⟩, S, _, [], [], rfl, H0.out, ⟨rfl, Nat.zero_le _, by rw [HSS.out]; rfl⟩, Rd.start S, by simp, by simp⟩
  case round =>
    obtain ⟨q, L, lv, acc, vks, rfl, hri, hsim, hrd, hcnt, hkd⟩ := hrel
    obtain ⟨pq, eq⟩ := q
    have he0 : eq = 0 := hsim.1
    subst he0
    have HRI := Lib.hid hri
    have HSI := Lib.hid hsim
    have HRD := Lib.hid hrd
    have HKD := Lib.hid hkd
    have hlen := sim_len s hsim
    have hple : pq ≤ s.size := hsim.2.1
    have hcap : acc.length < 1000000 ∨ L = [] := by
      by_cases hL : L = []
      · exact Or.inr hL
      · have := List.length_pos_iff.2 hL; have := HSZ.out; have := HS.out; left; omega
    obtain ⟨d0, d1, d2⟩ := rd_cells hri.rd
    simp only at hlen
    clear hri hsim hrd H0 hkd
    by_cases hlt : pq < s.size
    · have hkn : (pq : Int) < (s.size : Int) := by omega
      have hL : L ≠ [] := by intro e; rw [e] at hlen; simp at hlen; omega
      have hac : acc.length < 1000000 := by rcases hcap with h | h; exact h; exact absurd h hL
      have OS := one_sim s HSI.out
      have OV := one_val wr w.heap.size s ⟨pq, 0⟩ HRI.out.rd hple HS.out
      have OK := oneA_kind s ⟨pq, 0⟩
      have OG := oneA_gt s ⟨pq, 0⟩ rfl
      have OL := oneA_le s ⟨pq, 0⟩ hple
      obtain ⟨oa, ho⟩ : ∃ x, x = oneA s ⟨pq, 0⟩ := ⟨_, rfl⟩
      rw [← ho] at OS OV OK OG OL
      obtain ⟨a, q1⟩ := oa
      simp only at OS OV OK OG OL
      have COUNT := Lib.hid hcnt
      have HLEN := Lib.hid hlen
      have HAC := Lib.hid hac
      have HL := Lib.hid hL
      have OS := Lib.hid OS
      have OV := Lib.hid OV
      have OK := Lib.hid OK
      have OG := Lib.hid OG
      have OL := Lib.hid OL
      clear ho hlt hL hac hcnt hlen hple hcap
      go_wp2_with fail
      refine OV.out.mono ?_; rintro e w1 ⟨vk, rfl, ow1, r1, m1⟩
      obtain ⟨ko, kc, rfl⟩ := own_one ow1
      have hri1 := HRI.out.call r1 m1
      have hs1 : w.heap.size + 1 ≤ wr.heap.size := lt_of_rowQ HRI.out.rd
      have OW1 := Lib.hid (ownsRow_leQ ow1 hs1)
      have hne : ∀ k, some k = (Value.slice ko a.keep.length kc).ownBlock → some k ≠ lv.ownBlock := fun k hk e => by
        have h1 := (own_geS ow1 k hk).1
        have h2 := (own_geS HRI.out.own k e).2
        omega
      have HNE := Lib.hid hne
      have n0 := heap_alloc_new w1 (.cells #[.int .i64 0, .int .i64 0, .string ⟨#[]⟩, .string ⟨#[]⟩, .float .f64 0, .int .i64 0, .int .u64 0, .slice none 0 0, .int .i64 0, .int .i64 0] 47)
      have n1 := setRow_heap (w1.alloc (.cells #[.int .i64 0, .int .i64 0, .string ⟨#[]⟩, .string ⟨#[]⟩, .float .f64 0, .int .i64 0, .int .u64 0, .slice none 0 0, .int .i64 0, .int .i64 0] 47)) w1.heap.size _ #[.int .i64 a.kind, .int .i64 a.rk, .string a.id, .string a.va, .float .f64 a.ttl, .int .i64 a.pick, .int .u64 (a.n : Int), .slice ko a.keep.length kc, .int .i64 a.torn, .int .i64 a.pl] _ _ n0
      have HRI1 := Lib.hid hri1
      have b2 : Below w1.heap.size w1 ((w1.alloc (.cells #[.int .i64 0, .int .i64 0, .string ⟨#[]⟩, .string ⟨#[]⟩, .float .f64 0, .int .i64 0, .int .u64 0, .slice none 0 0, .int .i64 0, .int .i64 0] 47)).setRow w1.heap.size #[.int .i64 a.kind, .int .i64 a.rk, .string a.id, .string a.va, .float .f64 a.ttl, .int .i64 a.pick, .int .u64 (a.n : Int), .slice ko a.keep.length kc, .int .i64 a.torn, .int .i64 a.pl]) := by
        have b1 := alloc_below w1 (.cells #[.int .i64 0, .int .i64 0, .string ⟨#[]⟩, .string ⟨#[]⟩, .float .f64 0, .int .i64 0, .int .u64 0, .slice none 0 0, .int .i64 0, .int .i64 0] 47)
        exact ⟨b1.os, b1.tape, b1.output, by rw [setRow_sizeQ]; exact b1.size, fun i hi => (setRow_otherQ _ _ _ _ (by omega)).trans (b1.block i hi)⟩
      obtain ⟨A1, hA1⟩ : ∃ x, x = w1.heap.size := ⟨_, rfl⟩
      obtain ⟨W2, hW2⟩ : ∃ W, W = (w1.alloc (.cells #[.int .i64 0, .int .i64 0, .string ⟨#[]⟩, .string ⟨#[]⟩, .float .f64 0, .int .i64 0, .int .u64 0, .slice none 0 0, .int .i64 0, .int .i64 0] 47)).setRow w1.heap.size #[.int .i64 a.kind, .int .i64 a.rk, .string a.id, .string a.va, .float .f64 a.ttl, .int .i64 a.pick, .int .u64 (a.n : Int), .slice ko a.keep.length kc, .int .i64 a.torn, .int .i64 a.pl] := ⟨_, rfl⟩
      have hsz2 : W2.heap.size = A1 + 1 := by rw [hW2, setRow_sizeQ, alloc_sizeQ, hA1]
      have ONE0 : Hid ((#[.int .i64 a.kind, .int .i64 a.rk, .string a.id, .string a.va, .float .f64 a.ttl, .int .i64 a.pick, .int .u64 (a.n : Int), .slice ko a.keep.length kc, .int .i64 a.torn, .int .i64 a.pl] : Array Value).all (·.oneCell') = true) := Lib.hid (by simp [Value.oneCell'])
      have N0 := Lib.hid n0
      rw [← hW2] at n1 b2
      rw [← hA1] at n1
      have HB2 := Lib.hid b2
      have HN1 := Lib.hid n1
      have HA1 := Lib.hid hA1
      have HW2 := Lib.hid hW2
      have HSZ2 := Lib.hid hsz2
      clear r1 m1 ow1 hri1 hne n0 n1 b2 hA1 hW2 hsz2 d0 d1 d2
      have hri2 := HRI1.out.below HB2.out
      obtain ⟨d0, d1, d2⟩ := rd_cells hri2.rd
      obtain ⟨c0, c1, c2, c3, c4, c5, c6, c7, c8, c9⟩ := ract_cells HN1.out
      have HRI2 := Lib.hid hri2
      clear hri2
      simp only [Ac.row]
      obtain ⟨p1, e1⟩ := q1
      simp only at d1 d2
      by_cases he : e1 = 0
      · subst he
        obtain ⟨M, h1, hsm⟩ : ∃ M, rdOne L = .ok (a, M) ∧ Sim s ⟨p1, 0⟩ M := by
          rcases OS.out with ⟨a', M, h1, h2, h3⟩ | ⟨x, h1, h2, h3⟩
          · exact ⟨M, by rw [h1, h2], h3⟩
          · exact absurd h3.symm h2
        have hml := sim_len s hsm
        have hog := OG.out rfl
        have hol := OL.out
        simp only at hml hog hol
        have hmt : M.length < L.length := by have := HLEN.out; omega
        have HM := Lib.hid hsm
        have HR1 := Lib.hid h1
        have HMT := Lib.hid hmt
        have hmeas : s.size - p1 < s.size - pq := by omega
        have HME := Lib.hid hmeas
        have hnw := heap_alloc_new W2 (.cells #[.int .i64 a.kind, .int .i64 a.rk, .string a.id, .string a.va, .float .f64 a.ttl, .int .i64 a.pick, .int .u64 (a.n : Int), .slice ko a.keep.length kc, .int .i64 a.torn, .int .i64 a.pl] 47)
        rw [HSZ2.out] at hnw
        have HNW := Lib.hid hnw
        have hb3 := alloc_below W2 (.cells #[.int .i64 a.kind, .int .i64 a.rk, .string a.id, .string a.va, .float .f64 a.ttl, .int .i64 a.pick, .int .u64 (a.n : Int), .slice ko a.keep.length kc, .int .i64 a.torn, .int .i64 a.pl] 47)
        have HB3 := Lib.hid hb3
        have hown3 := World.ownsRow.alloc HRI2.out.own (.cells #[.int .i64 a.kind, .int .i64 a.rk, .string a.id, .string a.va, .float .f64 a.ttl, .int .i64 a.pick, .int .u64 (a.n : Int), .slice ko a.keep.length kc, .int .i64 a.torn, .int .i64 a.pl] 47)
        have HOW3 := Lib.hid hown3
        obtain ⟨ii, zz, i1, i2, i3, i4, i5⟩ := ract_info
        have I1 := Lib.hid i1
        have I2 := Lib.hid i2
        have I3 := Lib.hid i3
        have I4 := Lib.hid i4
        have I5 := Lib.hid i5
        clear i1 i2 i3 i4 i5 hsm h1 hml hog hol hmt hmeas hnw hb3 hown3
        rw [HA1.out, HW2.out] at c0 c1 c2 c3 c4 c5 c6 c7 c8 c9
        rw [HW2.out] at d0 d1 d2
        go_wp2_with (first | refine wpList_store_row rfl 47 _ _ rfl w1.heap.size #[.int .i64 a.kind, .int .i64 a.rk, .string a.id, .string a.va, .float .f64 a.ttl, .int .i64 a.pick, .int .u64 (a.n : Int), .slice ko a.keep.length kc, .int .i64 a.torn, .int .i64 a.pl] rfl rfl _ _ N0.out (by kernel_rfl) rfl ONE0.out ?_ | (at_builtin; refine wpList_append_lies _ rfl _ _ 36 rfl (w.heap.size + 1) 47 ii zz 10 112 Try.underlying36 I1.out I2.out I3.out I4.out I5.out (by decide) lv acc.length (rows acc vks) rfl ?c0 _ 1 1 (#[.int .i64 a.kind, .int .i64 a.rk, .string a.id, .string a.va, .float .f64 a.ttl, .int .i64 a.pick, .int .u64 (a.n : Int), .slice ko a.keep.length kc, .int .i64 a.torn, .int .i64 a.pl] : Array Value).toList rfl rfl ?c1 ?c2 ?c3 ?c4 ?c5 ?c6 _ rfl ?_))
        case c0 => rw [← HW2.out]; exact HOW3.out
        case c2 => simp [Value.oneCell']
        case c4 => simp only [maxLen]; have := HAC.out; omega
        case c5 => have := HAC.out; omega
        case c6 => have := HRI1.out.bel.size; omega
        intro g cap w5 hown hg hw hlt5
        rw [← HW2.out] at hg
        have hw' : lv.ownBlock = some g ∨ g = (W2.alloc (.cells #[.int .i64 a.kind, .int .i64 a.rk, .string a.id, .string a.va, .float .f64 a.ttl, .int .i64 a.pick, .int .u64 (a.n : Int), .slice ko a.keep.length kc, .int .i64 a.torn, .int .i64 a.pl] 47)).heap.size := by rw [alloc_sizeQ, HSZ2.out, HA1.out]; exact hw
        have hp := HRI2.out.push HB3.out a (.slice ko a.keep.length kc) (World.ownsRow.kept OW1.out (grown_belowS HB2.out) (apartS (by simp))) HNE.out g cap hown hg hw'
        have HP := Lib.hid hp
        clear c0 c1 c2 c3 c4 c5 c6 c7 c8 c9 d0 d1 d2 hp hown hg hw hw' hlt5
        go_wp2_with fail
        go_roundw
        case rel => exact ⟨⟨p1, 0⟩, M, _, _, _, rfl, HP.out, HM.out, HRD.out.ok HL.out HR1.out HMT.out, by rw [List.length_append]; simp only [List.length_cons, List.length_nil]; have := COUNT.out; have := HMT.out; omega, fun x hx => by
          rcases List.mem_append.1 hx with hx | hx
          · exact HKD.out x hx
          · rw [List.mem_singleton.1 hx]; exact OK.out⟩
        case measure => rw [HP.out.rd.left, HRI.out.rd.left]; exact HME.out
      · have g1 : (e1 == 0) = false := beq_eq_false_iff_ne.2 he
        have g2 : (e1 != 0) = true := bne_iff_ne.2 he
        have g3 : (e1 = 0) = False := eq_false he
        have ed : decA s = [] ∧ decX s = e1 := by
          rcases OS.out with ⟨a', M, h1, h2, h3⟩ | ⟨x, h1, h2, h3⟩
          · exact absurd h3.1 he
          · have := HRD.out.bad HL.out h1
            rw [← HSE.out] at this
            exact ⟨this.1, this.2.trans h3.symm⟩
        have ED := Lib.hid ed
        clear ed he
        rw [HA1.out, HW2.out] at c0 c1 c2 c3 c4 c5 c6 c7 c8 c9
        rw [HW2.out] at d0 d1 d2
        go_wp2_with (first | refine wpList_store_row rfl 47 _ _ rfl w1.heap.size #[.int .i64 a.kind, .int .i64 a.rk, .string a.id, .string a.va, .float .f64 a.ttl, .int .i64 a.pick, .int .u64 (a.n : Int), .slice ko a.keep.length kc, .int .i64 a.torn, .int .i64 a.pl] rfl rfl _ _ N0.out (by kernel_rfl) rfl ONE0.out ?_ | fail)
        clear d0 d1 d2 c0 c1 c2 c3 c4 c5 c6 c7 c8 c9
        rw [← HW2.out]
        obtain ⟨d0, d1, d2⟩ := rd_cells HRI2.out.rd
        have k2 := cell_regrown d2
        clear d0 d1 d2
        refine Loose.wp_region_quiet_fast (by kernel_rfl) (by kernel_rfl) ?_
        (try simp only [List.append_eq, List.cons_append, List.nil_append])
        repeat (go_big_quiet_step (fail))
        refine wpQuiet_nil ?_
        intro _ hw'
        obtain ⟨⟨dq, osq⟩, hw''⟩ := hw'
        subst hw''
        clear k2
        have bQ := below_regrown W2 dq osq
        go_wp2_with fail
        go_ret2
        rw [ED.out.1, ED.out.2]
        exact ⟨⟨_, rfl, Or.inl ⟨rfl, none, 0, rfl⟩⟩, below_step HRI2.out.bel bQ, by simp⟩
    · have hkn : ¬ (pq : Int) < (s.size : Int) := by omega
      have hL : L = [] := List.length_eq_zero_iff.1 (by omega)
      subst hL
      have ed := HRD.out.done
      rw [← HSE.out] at ed
      have ED := Lib.hid ed
      clear ed hlt hlen hcap hcnt
      go_wp2_with fail
      go_ret2
      rw [ED.out.1, ED.out.2]
      exact ⟨⟨_, rfl, SA.of_Rdi HRI.out⟩, HRI.out.bel, HKD.out⟩
end Go.Proofs.Ytjkiofgllmjkcaa.G
