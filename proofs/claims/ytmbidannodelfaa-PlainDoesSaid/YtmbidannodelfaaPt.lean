/- The sessions that live. -/
import Derived.Test.YtmbidannodelfaaPs
namespace Go.Proofs.Ytmbidannodelfaa.G
open Go.RowKit Go.Maps Go.Proofs.Ytmbidannodelfaa.WordPlain Go.Proofs.Ytmbidannodelfaa.Loose
set_option linter.unusedVariables false
set_option linter.unusedSimpArgs false

set_option maxRecDepth 100000 in
set_option maxHeartbeats 4000000 in
theorem sess_raw (w : World) (p b n now : Nat) (q : Int) (f : ByteArray → Option Ses) (h : PL w p b n now q f) (hn : n ≤ 1000000) :
    Calls Try.prog 20 #[.pointer (some ⟨p, 0, none⟩)] w fun e w' => (∃ u ks, e = .returned u ∧ KeysL f ks ∧ LR 3 encS w' u (livL now f ks) ∧ (livL now f ks = [] → u = .slice none 0 0)) ∧ Below w.heap.size w w' := by
  have c2 : w.cell? ⟨p, 2, none⟩ = some (.map (some b)) := (cell_of_row _ _ 2 _ _ _ h.cells).trans rfl
  have HS := Lib.hid (Sorted_val w b n f h.map hn)
  have HK := Lib.hid (Keys_val b w)
  have hb1 := (Below.refl w.heap.size w).alloc (Nat.le_refl _) (.cells #[.map (some b)] 65)
  have HB1 := Lib.hid hb1
  have HP := Lib.hid h
  clear h hb1
  go_enter Try.func20, Try.ntmps20
  go_wp2_with fail
  refine (HK.out).mono ?_; rintro e w1 ⟨rfl, rfl⟩
  go_wp2_with fail
  refine (HS.out).mono ?_; rintro e W ⟨⟨v, ks, rfl, hks, hkl, hv⟩, hb⟩
  have hbW := stepR HB1.out hb
  have hp := HP.out.below hbW
  have BW := Lib.hid hbW
  have PW := Lib.hid hp
  have KS := Lib.hid hks
  have hv' := hv
  obtain ⟨oa, cap, hve, hcap, hx⟩ := hv'
  obtain ⟨m, hm⟩ : ∃ m, m = ks.length := ⟨_, rfl⟩
  have hkn : m ≤ 1000000 := by omega
  rw [← hm] at hve
  subst hve
  have HX := Lib.hid hx
  have HM := Lib.hid hm
  clear hkl hb hbW hp hks hv hcap hx hm c2
  go_wp2_with fail
  go_loopw [3, 15] (fun o i wr => ∃ (r : Nat) (lv : Value), r ≤ m ∧ i = .int .i64 r ∧ lv = o ∧ OwnL W.heap.size 70 3 encS wr lv (livL now f (ks.take r)) ∧ (livL now f (ks.take r) = [] → lv = .slice none 0 0) ∧ Below W.heap.size W wr) (fun _ i _ => m - (intOf i).toNat)
  case atStart => exact ⟨0, _, by omega, rfl, rfl, own_nil _ _ _ _ _, fun _ => rfl, Below.refl _ _⟩
  case round =>
    obtain ⟨r, lv, hr, rfl, rfl, hown, hnil, hbl⟩ := hrel
    have NIL := Lib.hid hnil
    clear hnil
    have OWN := Lib.hid hown
    have BL := Lib.hid hbl
    clear hown hbl
    by_cases hlt : r < m
    · have hrk : r < ks.length := by have := HM.out; omega
      have hkn' : (r : Int) < (m : Int) := by omega
      obtain ⟨b', off, hoa, hcell⟩ := HX.out r hrk
      have hc0 := hcell 0 (.string ks[r]) rfl
      rw [Nat.mul_one, Nat.add_zero] at hc0
      have hc1 := (BL.out.cell (p := ⟨b', off + r, none⟩) (lt_of_cellR hc0)).trans hc0
      have hkz : ks[r].size ≤ 140737488351232 := by
        have := (KS.out.mem ks[r]).1 (List.getElem_mem hrk)
        cases hs : f ks[r] with
        | none => rw [hs] at this; cases this
        | some s => exact (PW.out.ids _ _ hs).2
      have htk : ks.take (r + 1) = ks.take r ++ [ks[r]] := List.take_succ_eq_append_getElem hrk
      have hsn := livL_snoc now f (ks.take r) ks[r]
      rw [← htk] at hsn
      obtain ⟨k, hk⟩ : ∃ k, k = ks[r] := ⟨_, rfl⟩
      rw [← hk] at hc1 hkz hsn
      have fv := find_val wr p b n now q f k (PW.out.below BL.out) hkz
      obtain ⟨s, hs⟩ : ∃ s, s = (f k).getD Ses.zero := ⟨_, rfl⟩
      rw [← hs] at fv hsn
      obtain ⟨i, v, d⟩ := s
      simp only [Ses.row] at fv
      have FV := Lib.hid fv
      have SN := Lib.hid hsn
      subst hoa
      clear hc0 hcell htk hk hs fv hsn hkz
      by_cases hz : liv now f k = true
      · rw [hz] at FV
        have SN2 := SN.out
        rw [hz, if_pos rfl] at SN2
        have SN3 := Lib.hid SN2
        clear SN2 SN hz
        go_wp2_with fail
        refine (FV.out).mono ?_; rintro e w2 ⟨rfl, b2⟩
        have B2 := Lib.hid b2
        have hnw := (two_newP w2 (.cells #[.string i, .string v, .int .u64 (d : Int)] 70) (.cells #[.string i, .string v, .int .u64 (d : Int)] 70)).2
        have HNW := Lib.hid hnw
        obtain ⟨ii, zz, i1, i2, i3, i4, i5⟩ := ses_info
        have I1 := Lib.hid i1
        have I2 := Lib.hid i2
        have I3 := Lib.hid i3
        have I4 := Lib.hid i4
        have I5 := Lib.hid i5
        have hsz := b2.size
        have hsz2 := BL.out.size
        have hln : (livL now f (ks.take r)).length ≤ 1000000 := by
          have h1 : (livL now f (ks.take r)).length ≤ (ks.take r).length := List.length_filterMap_le _ _
          rw [List.length_take] at h1
          omega
        obtain ⟨L, hL⟩ : ∃ L, L = livL now f (ks.take r) := ⟨_, rfl⟩
        rw [← hL] at OWN SN3 hln
        have NIL2 : Hid (livL now f (ks.take (r + 1)) = [] → False) := Lib.hid (fun e => by rw [SN3.out] at e; simp at e)
        clear NIL
        have hs1 := alloc_sizeR w2 (.cells #[.string i, .string v, .int .u64 (d : Int)] 70)
        have hs2 := alloc_sizeR (w2.alloc (.cells #[.string i, .string v, .int .u64 (d : Int)] 70)) (.cells #[.string i, .string v, .int .u64 (d : Int)] 70)
        have HS1 := Lib.hid hs1
        have HS2 := Lib.hid hs2
        clear b2 FV hc1 hnw i1 i2 i3 i4 i5 hL hs1 hs2
        go_wp2_with (at_builtin; go_loud (refine wpList_append_lies _ rfl _ _ 49 rfl W.heap.size 70 ii zz 3 40 Try.underlying49 I1.out I2.out I3.out I4.out I5.out (by decide) lv L.length (L.flatMap encS) rfl ?h0 ⟨w2.heap.size + 1, 0, none⟩ 1 1 [.string i, .string v, .int .u64 (d : Int)] rfl rfl ?h1 ?h2 ?h3 ?h4 ?h5 ?h6 _ rfl ?_))
        case h0 => exact ((OWN.out.kept (grown_belowR B2.out) (apartR (by simp))).alloc _).alloc _
        case h1 => exact World.news_of_block HNW.out
        case h2 => simp [Value.oneCell']
        case h3 => decide
        case h4 => simp only [maxLen]; omega
        case h5 => omega
        case h6 => rw [HS2.out, HS1.out]; omega
        intro g cap5 w5 hown5 hg hw hlt5
        have hbw : Below W.heap.size W w5 := (stepR BL.out B2.out).trans (below_grownR ⟨hg.os, hg.tape, hg.output, by have := hg.size; rw [HS2.out, HS1.out] at this; omega, fun k hk hn => (hg.block k (by rw [HS2.out, HS1.out]; omega) hn).trans (((Below.refl w2.heap.size w2).alloc (Nat.le_refl _) _).alloc (by rw [HS1.out]; omega) _ |>.block k hk)⟩ (fun k hk => (own_geR OWN.out k hk).1) (by omega))
        have hown6 : OwnL W.heap.size 70 3 encS w5 (.slice (some ⟨g, 0, none⟩) (L.length + 1) cap5) (livL now f (ks.take (r + 1))) := by
          rw [SN3.out]
          show w5.ownsRow _ _ _ _ (L ++ [_]).length ((L ++ [_]).flatMap encS)
          rw [flat_snoc, List.length_append]
          exact hown5
        have OWN6 := Lib.hid hown6
        have BW6 := Lib.hid hbw
        clear hown6 hbw hown5 hg hw hlt5 hsz hsz2
        go_wp2_with fail
        go_roundw
        case rel => exact ⟨r + 1, _, by omega, by go_num, rfl, OWN6.out, fun e => (NIL2.out e).elim, BW6.out⟩
        case measure => simp [intOf]; omega
      · have hz' : liv now f k = false := by simpa using hz
        rw [hz'] at FV
        have SN2 := SN.out
        rw [hz', if_neg (by decide), List.append_nil] at SN2
        have SN3 := Lib.hid SN2
        clear SN2 SN hz hz'
        go_wp2_with fail
        refine (FV.out).mono ?_; rintro e w2 ⟨rfl, b2⟩
        have B2 := Lib.hid b2
        have hs1 := alloc_sizeR w2 (.cells #[.string i, .string v, .int .u64 (d : Int)] 70)
        have hown6 : OwnL W.heap.size 70 3 encS (w2.alloc (.cells #[.string i, .string v, .int .u64 (d : Int)] 70)) lv (livL now f (ks.take (r + 1))) := by
          rw [SN3.out]
          exact (OWN.out.kept (grown_belowR B2.out) (apartR (by simp))).alloc _
        have hb6 := stepR BL.out (b2.alloc b2.size (.cells #[.string i, .string v, .int .u64 (d : Int)] 70))
        have OWN6 := Lib.hid hown6
        have BW6 := Lib.hid hb6
        clear b2 FV hc1 hown6 hb6 hs1
        go_wp2_with fail
        go_roundw
        case rel => exact ⟨r + 1, _, by omega, by go_num, rfl, OWN6.out, fun e => NIL.out (by rw [← SN3.out]; exact e), BW6.out⟩
        case measure => simp [intOf]; omega
    · obtain rfl : r = m := by omega
      have ht : ks.take r = ks := List.take_of_length_le (by have := HM.out; omega)
      have hl := own_lr (k := 3) (enc := encS) (fun _ => rfl) OWN.out
      rw [ht] at hl
      have hnil := NIL.out
      rw [ht] at hnil
      have HNIL := Lib.hid hnil
      clear hnil
      have HL := Lib.hid hl
      have BB := Lib.hid (stepR BW.out BL.out)
      clear ht hl hlt
      go_wp2_with fail
      go_ret
      exact ⟨⟨_, ks, rfl, KS.out, HL.out, HNIL.out⟩, BB.out⟩
theorem addV_ge (a b : Nat) (ha : a < 18446744073709551616) : a ≤ addV a b := by unfold addV; split <;> omega
theorem livL_le (now u : Nat) (f : ByteArray → Option Ses) (ks : List ByteArray) (h : now ≤ u) : (livL u f ks).length ≤ (livL now f ks).length := by
  induction ks with
  | nil => simp [livL]
  | cons k ks ih =>
    unfold livL at ih ⊢
    have hl : liv u f k = true → liv now f k = true := by
      unfold liv; cases f k with
      | none => exact fun h => h
      | some s => simp; omega
    simp only [List.filterMap_cons]
    by_cases h1 : liv u f k = true
    · rw [if_pos h1, if_pos (hl h1)]
      cases f k <;> simp <;> omega
    · rw [if_neg h1]
      by_cases h2 : liv now f k = true
      · rw [if_pos h2]; cases f k <;> simp <;> omega
      · rw [if_neg h2]; exact ih
/-- those that live, by rising ids -/
structure IsSes (now : Nat) (f : ByteArray → Option Ses) (L : List Ses) : Prop where
  sorted : L.Pairwise fun x y => bl8 x.id < bl8 y.id
  mem : ∀ s, s ∈ L ↔ f s.id = some s ∧ now < s.dl
theorem livL_is {now : Nat} {f : ByteArray → Option Ses} {ks : List ByteArray} (h : KeysL f ks) (hid : ∀ k s, f k = some s → s.id = k) : IsSes now f (livL now f ks) := by
  constructor
  · unfold livL
    refine List.pairwise_filterMap.2 (h.sorted.imp fun {a b} hab x hx y hy => ?_)
    have hx' : f a = some x := by
      by_cases hl : liv now f a = true
      · rw [if_pos hl] at hx; exact hx
      · rw [if_neg hl] at hx; cases hx
    have hy' : f b = some y := by
      by_cases hl : liv now f b = true
      · rw [if_pos hl] at hy; exact hy
      · rw [if_neg hl] at hy; cases hy
    rw [hid a x hx', hid b y hy']
    exact hab
  · intro s
    unfold livL
    rw [List.mem_filterMap]
    constructor
    · rintro ⟨k, hk, hs⟩
      by_cases hl : liv now f k = true
      · rw [if_pos hl] at hs
        rw [hid k s hs]
        refine ⟨hs, ?_⟩
        unfold liv at hl
        rw [hs] at hl
        simpa using hl
      · rw [if_neg hl] at hs; cases hs
    · rintro ⟨h1, h2⟩
      refine ⟨s.id, (h.mem _).2 (by rw [h1]; rfl), ?_⟩
      unfold liv
      rw [h1]
      simp [h2]
theorem IsSes.uniq {now now' : Nat} {f g : ByteArray → Option Ses} {L M : List Ses} (h : IsSes now f L) (h' : IsSes now' g M) (he : ∀ s, (f s.id = some s ∧ now < s.dl) ↔ (g s.id = some s ∧ now' < s.dl)) : L = M := by
  have irr : ∀ x : List UInt8, ¬ x < x := fun x => List.lt_irrefl x
  have nd : ∀ {l : List Ses}, (l.Pairwise fun x y => bl8 x.id < bl8 y.id) → l.Nodup := fun hl => hl.imp fun {a b} h e => by subst e; exact irr _ h
  have hp : L.Perm M := (List.perm_ext_iff_of_nodup (nd h.sorted) (nd h'.sorted)).2 fun s => by rw [h.mem, h'.mem]; exact he s
  refine List.Perm.eq_of_pairwise (le := fun x y => bl8 x.id < bl8 y.id) (fun a b _ _ h1 h2 => absurd (List.lt_trans h1 h2) (irr _)) h.sorted h'.sorted hp
theorem sess_val (w : World) (p b n now : Nat) (q : Int) (f : ByteArray → Option Ses) (h : PL w p b n now q f) (hn : n ≤ 1000000) :
    Calls Try.prog 20 #[.pointer (some ⟨p, 0, none⟩)] w fun e w' => (∃ u L, e = .returned u ∧ IsSes now f L ∧ LR 3 encS w' u L ∧ (L = [] → u = .slice none 0 0)) ∧ Below w.heap.size w w' :=
  (sess_raw w p b n now q f h hn).mono fun e w' ⟨⟨u, ks, h1, h2, h3, h5⟩, h4⟩ => ⟨⟨u, _, h1, livL_is h2 (fun k s hs => (h.ids k s hs).1), h3, h5⟩, h4⟩
end Go.Proofs.Ytmbidannodelfaa.G
