/- The document's index: IDs, set. -/
import Derived.Test.YthpompgcnemanaaJb
import Derived.Test.YthpompgcnemanaaGFast
import Derived.BigQuiet
namespace Go.Proofs.Ythpompgcnemanaa.G
open Go.RowKit Go.Maps Go.Proofs Go.Proofs.Ythpompgcnemanaa.WordPlain Go.Proofs.Ythpompgcnemanaa.Loose
set_option linter.unusedVariables false
set_option linter.unusedSimpArgs false

/-- the ids of those that live -/
def livIds (l : List (ByteArray × Ent)) : List ByteArray := (l.filter fun p => p.2.live).map (·.1)
theorem livIds_step {l : List (ByteArray × Ent)} {s : Nat} (h : s < l.length) : livIds (l.take (s + 1)) = livIds (l.take s) ++ (if l[s].2.live = true then [l[s].1] else []) := by
  unfold livIds
  rw [List.take_succ_eq_append_getElem h, List.filter_append, List.map_append]
  congr 1
  by_cases hp : l[s].2.live = true
  · simp [hp]
  · simp [hp]
theorem livIds_len (l : List (ByteArray × Ent)) : (livIds l).length ≤ l.length := by unfold livIds; rw [List.length_map]; exact List.length_filter_le _ _
set_option maxRecDepth 100000 in
set_option maxHeartbeats 8000000 in
theorem rIDs_val (w : World) (R : Nat) (vS vL : Value) (S : List (Plc × ByteArray)) (L : List (ByteArray × Ent)) (h : RI w R vS vL S L) (hl : L.length ≤ 1000000) :
    Calls Try.prog 32 #[.pointer (some ⟨R, 0, none⟩)] w fun e w' => (∃ u, e = .returned u ∧ LR 1 encK w' u (livIds L)) ∧ Below w.heap.size w w' := by
  have hlr := own_lr (k := 7) (enc := encNw) (fun _ => rfl) h.ls
  obtain ⟨oa, cap, rfl, _, hx⟩ := hlr
  obtain ⟨n, hn⟩ : ∃ n, n = L.length := ⟨_, rfl⟩
  have hrow := h.row
  rw [← hn] at hrow hl
  have c1 : ∀ V, Below w.heap.size w V → V.cell? ⟨R, 1, none⟩ = some (.slice oa n cap) := fun V hV => (cell_of_row _ _ 1 _ _ _ ((hV.block _ (lt_of_rowR hrow)).trans hrow)).trans rfl
  have HX := Lib.hid hx
  have HN := Lib.hid hn
  have C1 := Lib.hid c1
  have HRI := Lib.hid h
  clear hx hn hrow c1 h

  have OWN0 := Lib.hid (own_new w 9 1 encK w.heap.size (Nat.le_refl _))
  have BB0 := Lib.hid ((Below.refl w.heap.size w).alloc (Nat.le_refl _) (.cells #[] 9))
  go_enter Try.func32, Try.ntmps32
  go_wp2_with fail
  go_loopw [4, 3] (fun iv ov wr => ∃ (s : Nat) (M : List ByteArray) (lv : Value), s ≤ n ∧ iv = .int .i64 s ∧ lv = ov ∧ M = livIds (L.take s) ∧ OwnL w.heap.size 9 1 encK wr lv M ∧ Below w.heap.size w wr) (fun iv _ _ => n - (intOf iv).toNat)
  case atStart => exact ⟨0, [], _, by omega, rfl, rfl, rfl, OWN0.out, BB0.out⟩
  case round =>
    obtain ⟨s, M, lv, hs, rfl, rfl, hM, hown, hb⟩ := hrel
    have OWN := Lib.hid hown
    have BL := Lib.hid hb
    have c1 := C1.out wr hb
    have HMM := Lib.hid hM
    have hMl : M.length ≤ 1000000 := by rw [hM]; exact Nat.le_trans (livIds_len _) (by rw [List.length_take]; omega)
    clear hown hb hM
    by_cases hlt : s < n
    · have hkn : (s : Int) < (n : Int) := by omega
      have hsl : s < L.length := by have := HN.out; omega
      obtain ⟨b, off, hoa, hc⟩ := HX.out s hsl
      obtain ⟨x, hxx⟩ : ∃ x, x = L[s] := ⟨_, rfl⟩
      rw [← hxx] at hc
      have hlc := lt_of_cellR (hc 0 _ rfl)
      have xc : ∀ V, Below w.heap.size w V → ∀ j u, (encNw x)[j]? = some u → V.cell? ⟨b, off + s * 7 + j, none⟩ = some u := fun V hV j u hu => (hV.cell (p := ⟨b, off + s * 7 + j, none⟩) hlc).trans (hc j u hu)
      have HXX := Lib.hid hxx
      subst hoa
      clear hc hlc hxx

      have hst := livIds_step hsl
      rw [← HMM.out, ← HXX.out] at hst
      have HST := Lib.hid hst
      have WJ := Lib.hid (wrI s (by omega))
      obtain ⟨xi, ⟨xv, xd, xl, xz, xg, xs⟩⟩ := x
      have x0 := xc wr BL.out 0 _ rfl
      rw [Nat.add_zero] at x0
      have x3 := xc wr BL.out 3 _ rfl

      clear xc hst
      cases xl with
      | true =>
        have HST2 : Hid (livIds (L.take (s + 1)) = M ++ [xi]) := Lib.hid (by rw [HST.out]; rfl)
        obtain ⟨ii, zz, i1, i2, i3, i4, i5⟩ := str_info
        have I1a := Lib.hid i1
        have I2a := Lib.hid i2
        have I3a := Lib.hid i3
        have I4a := Lib.hid i4
        have I5a := Lib.hid i5
        have HNWa := Lib.hid (heap_alloc_new wr (.cells #[.string xi] (9 : Nat)))
        have HSa := Lib.hid (alloc_sizeR wr (.cells #[.string xi] (9 : Nat)))
        have OWAa := Lib.hid ((OWN.out).alloc (.cells #[.string xi] (9 : Nat)))
        clear i1 i2 i3 i4 i5
        go_wp2_with (at_builtin; go_loud (refine wpList_append_lies _ rfl _ _ 42 rfl w.heap.size 9 ii zz 1 16 Try.underlying42 I1a.out I2a.out I3a.out I4a.out I5a.out (by decide) lv M.length (M.flatMap encK) rfl ?q1h0 ⟨wr.heap.size, 0, none⟩ 1 1 [.string xi] rfl rfl ?q1h1 ?q1h2 ?q1h3 ?q1h4 ?q1h5 ?q1h6 _ rfl ?_))
        case q1h0 => exact OWAa.out
        (try case q1h1 => exact World.news_of_block HNWa.out)
        case q1h2 => simp [Value.oneCell']
        (try case q1h3 => decide)
        case q1h4 => simp only [maxLen]; omega
        case q1h5 => omega
        case q1h6 => have := BL.out.size; have := HSa.out; omega
        intro ga capa wa howna hg hw hlt
        have owa : OwnL w.heap.size 9 1 encK wa (.slice (some ⟨ga, 0, none⟩) (M.length + 1) capa) (M ++ [xi]) := by show World.ownsRow _ _ _ _ _ (M ++ [_]).length ((M ++ [_]).flatMap encK); rw [flat_snoc, List.length_append]; exact howna
        have bwa := (BL.out.trans ((Below.refl _ _).alloc BL.out.size _)).trans (below_grownR hg (fun k hk => (own_geR OWAa.out k hk).1) (by have := BL.out.size; have := HSa.out; omega))
        obtain ⟨lva, hlva⟩ : ∃ v, v = Value.slice (some ⟨ga, 0, none⟩) (M.length + 1) capa := ⟨_, rfl⟩
        rw [← hlva] at owa ⊢
        have OWa := Lib.hid owa
        have BWa := Lib.hid bwa
        clear howna hg hw hlt owa bwa hlva

        clear x0 x3
        go_wp2_with fail
        go_roundw
        case rel => exact ⟨s + 1, _, _, by omega, by first | rfl | (rw [WJ.out]), rfl, HST2.out.symm, OWa.out, BWa.out⟩
        case measure => (try rw [WJ.out]); simp only [intOf, Int.toNat_natCast]; omega
      | false =>
        have HST2 : Hid (livIds (L.take (s + 1)) = M) := Lib.hid (by rw [HST.out]; simp)
        go_wp2_with fail
        go_roundw
        case rel => exact ⟨s + 1, _, _, by omega, by first | rfl | (rw [WJ.out]), rfl, HST2.out.symm, OWN.out, BL.out⟩
        case measure => (try rw [WJ.out]); simp only [intOf, Int.toNat_natCast]; omega
    · have hkn : ¬ (s : Int) < (n : Int) := by omega
      have ht : L.take s = L := List.take_of_length_le (by have := HN.out; omega)
      have hl2 := own_lr (k := 1) (enc := encK) (fun _ => rfl) OWN.out
      rw [HMM.out, ht] at hl2
      have HL2 := Lib.hid hl2
      clear ht hl2
      go_wp2_with fail
      go_ret
      exact ⟨⟨_, rfl, HL2.out⟩, BL.out⟩
/-- what an id's newest is set anew in, of the first so many -/
def PutI (i : ByteArray) (e : Ent) (L : List (ByteArray × Ent)) (s : Nat) (pt : Bool) (M : List (ByteArray × Ent)) : Prop :=
  (pt = false ∧ (∀ j (hj : j < L.length), j < s → Op.bytesLess L[j].1.toList i.toList = true) ∧ M = L.take s) ∨
  (pt = true ∧ ∃ r, r < s ∧ (∀ j (hj : j < L.length), j < r → Op.bytesLess L[j].1.toList i.toList = true) ∧ (∀ h : r < L.length, Op.bytesLess L[r].1.toList i.toList = false) ∧ M = L.take r ++ (i, e) :: ((L.take s).drop r).filter (fun q => decide (q.1 ≠ i)))
def SetI (i : ByteArray) (e : Ent) (L M : List (ByteArray × Ent)) : Prop :=
  ∃ r, r ≤ L.length ∧ (∀ j (hj : j < L.length), j < r → Op.bytesLess L[j].1.toList i.toList = true) ∧ (∀ h : r < L.length, Op.bytesLess L[r].1.toList i.toList = false) ∧ M = L.take r ++ (i, e) :: (L.drop r).filter (fun q => decide (q.1 ≠ i))
section
variable {i : ByteArray} {e : Ent} {L M : List (ByteArray × Ent)} {s : Nat} {pt : Bool}
theorem tri8 {a b : List UInt8} (h : ¬ a < b) (hn : a ≠ b) : b < a := by
  rcases Decidable.em (b < a) with h2 | h2
  · exact h2
  · exact absurd (List.le_antisymm h2 h) hn
theorem less_ne {a b : ByteArray} (h : Op.bytesLess a.toList b.toList = true) : a ≠ b := by
  rintro rfl
  rw [bytesLess_eq] at h
  exact List.lt_irrefl _ (of_decide_eq_true h)
theorem less_iff8 {a b : ByteArray} : Op.bytesLess a.toList b.toList = true ↔ bl8 a < bl8 b := by
  rw [bytesLess_eq, ByteArray.toList_eq, ByteArray.toList_eq]
  exact decide_eq_true_iff
theorem drop_take {r : Nat} (hr : r ≤ s) (h : s < L.length) : (L.take (s + 1)).drop r = (L.take s).drop r ++ [L[s]] := by
  rw [List.take_succ_eq_append_getElem h, List.drop_append_of_le_length (by rw [List.length_take]; omega)]
theorem PutI.add (h : PutI i e L s pt M) (hs : s < L.length) (hne : L[s].1 ≠ i) (hc : pt = true ∨ Op.bytesLess L[s].1.toList i.toList = true) : PutI i e L (s + 1) pt (M ++ [L[s]]) := by
  rcases h with ⟨h1, h2, h3⟩ | ⟨h1, r, h2, h3, h4, h5⟩
  · have hl : Op.bytesLess L[s].1.toList i.toList = true := hc.resolve_left (by rw [h1]; decide)
    refine Or.inl ⟨h1, fun j hj hjs => ?_, by rw [h3, List.take_succ_eq_append_getElem hs]⟩
    rcases (by omega : j < s ∨ j = s) with h | h
    · exact h2 j hj h
    · subst h; exact hl
  · refine Or.inr ⟨h1, r, by omega, h3, h4, ?_⟩
    rw [h5, drop_take (by omega) hs, List.filter_append, List.filter_cons_of_pos (by simpa using hne)]
    simp
theorem PutI.skip (h : PutI i e L s true M) (hs : s < L.length) (heq : L[s].1 = i) : PutI i e L (s + 1) true M := by
  rcases h with ⟨h1, _⟩ | ⟨h1, r, h2, h3, h4, h5⟩
  · cases h1
  · refine Or.inr ⟨rfl, r, by omega, h3, h4, ?_⟩
    rw [h5, drop_take (by omega) hs, List.filter_append, List.filter_cons_of_neg (by simpa using heq)]
    simp
theorem PutI.put (h : PutI i e L s false M) (hs : s < L.length) (hge : Op.bytesLess L[s].1.toList i.toList = false) (N : List (ByteArray × Ent)) (hN : N = if L[s].1 = i then [] else [L[s]]) : PutI i e L (s + 1) true ((M ++ [(i, e)]) ++ N) := by
  rcases h with ⟨h1, h2, h3⟩ | ⟨h1, _⟩
  · refine Or.inr ⟨rfl, s, by omega, h2, fun _ => hge, ?_⟩
    rw [h3, drop_take (Nat.le_refl _) hs, hN, List.drop_of_length_le (by rw [List.length_take]; omega)]
    by_cases heq : L[s].1 = i
    · rw [if_pos heq, List.nil_append, List.filter_cons_of_neg (by simpa using heq)]; simp
    · rw [if_neg heq, List.nil_append, List.filter_cons_of_pos (by simpa using heq)]; simp
  · cases h1
theorem PutI.done_t (h : PutI i e L L.length true M) : SetI i e L M := by
  rcases h with ⟨h1, _⟩ | ⟨h1, r, h2, h3, h4, h5⟩
  · cases h1
  · exact ⟨r, by omega, h3, h4, by rw [h5, List.take_length]⟩
theorem PutI.done_f (h : PutI i e L L.length false M) : SetI i e L (M ++ [(i, e)]) := by
  rcases h with ⟨h1, h2, h3⟩ | ⟨h1, _⟩
  · refine ⟨L.length, Nat.le_refl _, h2, fun h => absurd h (Nat.lt_irrefl _), ?_⟩
    rw [h3, List.drop_length]; simp
  · cases h1
theorem PutI.len (h : PutI i e L s pt M) : M.length ≤ s + 1 := by
  rcases h with ⟨_, _, h3⟩ | ⟨_, r, h2, _, _, h5⟩
  · rw [h3, List.length_take]; omega
  · rw [h5, List.length_append, List.length_cons]
    have h1 := List.length_filter_le (fun q : ByteArray × Ent => decide (q.1 ≠ i)) ((L.take s).drop r)
    rw [List.length_drop, List.length_take] at h1
    rw [List.length_take]
    omega
theorem SetI.law {N : ByteArray → Option Ent} (h : SetI i e L M) (hE : En N L) (hS : L.Pairwise fun a b => bl8 a.1 < bl8 b.1) : En (updM N i (some e)) M ∧ M.Pairwise fun a b => bl8 a.1 < bl8 b.1 := by
  obtain ⟨r, hr, h1, h2, rfl⟩ := h
  have hlt : ∀ p ∈ L.take r, bl8 p.1 < bl8 i := fun p hp => by
    obtain ⟨j, hj, he⟩ := List.mem_iff_getElem.1 hp
    rw [List.getElem_take] at he
    rw [List.length_take] at hj
    rw [← he]
    exact less_iff8.1 (h1 j (by omega) (by omega))
  have hgt : ∀ p ∈ L.drop r, p.1 ≠ i → bl8 i < bl8 p.1 := fun p hp hne => by
    obtain ⟨j, hj, he⟩ := List.mem_iff_getElem.1 hp
    rw [List.getElem_drop] at he
    rw [List.length_drop] at hj
    have hr2 : r < L.length := by omega
    have hge : ¬ bl8 L[r].1 < bl8 i := fun hh => by have := h2 hr2; rw [less_iff8.2 hh] at this; cases this
    rw [← he] at hne ⊢
    rcases Nat.eq_zero_or_pos j with hj0 | hj0
    · subst hj0
      simp only [Nat.add_zero] at hne ⊢
      exact tri8 hge (fun hh : bl8 L[r].1 = bl8 i => hne (bl8_inj hh))
    · have hs := List.pairwise_iff_getElem.1 hS r (r + j) hr2 (by omega) (by omega)
      by_cases heq : L[r].1 = i
      · rw [heq] at hs; exact hs
      · exact List.lt_trans (tri8 hge (fun hh : bl8 L[r].1 = bl8 i => heq (bl8_inj hh))) hs
  have hP : (L.take r ++ (i, e) :: (L.drop r).filter (fun q => decide (q.1 ≠ i))).Pairwise fun a b => bl8 a.1 < bl8 b.1 := by
    refine List.pairwise_append.2 ⟨hS.sublist (List.take_sublist _ _), List.pairwise_cons.2 ⟨fun p hp => ?_, (hS.sublist (List.drop_sublist _ _)).filter _⟩, fun p hp q hq => ?_⟩
    · obtain ⟨ha, hb⟩ := List.mem_filter.1 hp
      exact hgt p ha (of_decide_eq_true hb)
    · rcases List.mem_cons.1 hq with rfl | hq
      · exact hlt p hp
      · obtain ⟨ha, hb⟩ := List.mem_filter.1 hq
        exact List.lt_trans (hlt p hp) (hgt q ha (of_decide_eq_true hb))
  refine ⟨⟨?_, fun x s => ?_⟩, hP⟩
  · rw [List.Nodup, List.pairwise_map]
    exact hP.imp fun {a b} h he => by rw [he] at h; exact List.lt_irrefl _ h
  · rw [List.mem_append, List.mem_cons, List.mem_filter]
    by_cases hx : x = i
    · subst hx
      rw [updM_same]
      constructor
      · rintro (h | h | h)
        · exact absurd (hlt _ h) (List.lt_irrefl _)
        · cases h; rfl
        · exact absurd rfl (of_decide_eq_true h.2)
      · intro h; cases h; exact Or.inr (Or.inl rfl)
    · rw [updM_other hx, ← hE.2 x s]
      constructor
      · rintro (h | h | h)
        · exact List.mem_of_mem_take h
        · cases h; exact absurd rfl hx
        · exact List.mem_of_mem_drop h.1
      · intro h
        rw [← List.take_append_drop r L] at h
        rcases List.mem_append.1 h with h | h
        · exact Or.inl h
        · exact Or.inr (Or.inr ⟨h, decide_eq_true hx⟩)
end
set_option maxRecDepth 100000 in
set_option maxHeartbeats 8000000 in
theorem rset_val (w : World) (R : Nat) (vS vL : Value) (S : List (Plc × ByteArray)) (L : List (ByteArray × Ent)) (i : ByteArray) (e : Ent) (h : RI w R vS vL S L) (hl : L.length ≤ 1000000) :
    Calls Try.prog 39 #[.pointer (some ⟨R, 0, none⟩), .string i, .agg e.row] w fun e' w' => e' = .returned (.tuple #[]) ∧ (∃ lv M, SetI i e L M ∧ RI w' R vS lv S M) ∧ Fw (fun i => i = R) w w' := by
  have hlr := own_lr (k := 7) (enc := encNw) (fun _ => rfl) h.ls
  obtain ⟨oa, cap, rfl, _, hx⟩ := hlr
  obtain ⟨n, hn⟩ : ∃ n, n = L.length := ⟨_, rfl⟩
  have hrow := h.row
  rw [← hn] at hrow hl
  have c1 : ∀ V, Below w.heap.size w V → V.cell? ⟨R, 1, none⟩ = some (.slice oa n cap) := fun V hV => (cell_of_row _ _ 1 _ _ _ ((hV.block _ (lt_of_rowR hrow)).trans hrow)).trans rfl
  have HX := Lib.hid hx
  have HN := Lib.hid hn
  have C1 := Lib.hid c1
  have HRI := Lib.hid h
  clear hx hn hrow c1 h

  obtain ⟨ev, ed, el, ez, eg, es⟩ := e
  simp only [Ent.row]
  obtain ⟨w1, hw1⟩ : ∃ W, W = w.alloc (.cells #[.int .u64 (ev : Int), .int .u64 (ed : Int), .bool el, .int .i64 ez, .int .i64 eg, .int .i64 es] (71 : Nat)) := ⟨_, rfl⟩
  have b01 : Below w.heap.size w w1 := by rw [hw1]; exact (Below.refl _ _).alloc (Nat.le_refl _) _
  have row1 : w1.heap[w.heap.size]? = some (.cells #[.int .u64 (ev : Int), .int .u64 (ed : Int), .bool el, .int .i64 ez, .int .i64 eg, .int .i64 es] (71 : Nat) (0, 0)) := by rw [hw1]; exact heap_alloc_new _ _
  have B01 := Lib.hid b01
  have ROW1 := Lib.hid row1
  have HW1 := Lib.hid hw1
  have HS1 := Lib.hid (show w1.heap.size = w.heap.size + 1 by rw [hw1]; exact alloc_sizeR _ _)
  have OWN0 : Hid (OwnL w1.heap.size 86 7 encNw (w1.alloc (.cells #[] 86)) (.slice (some ⟨w.heap.size + 1, 0, none⟩) 0 0) []) := Lib.hid (by rw [← HS1.out]; exact own_new w1 86 7 encNw w1.heap.size (Nat.le_refl _))
  have BB0 := Lib.hid ((Below.refl w1.heap.size w1).alloc (Nat.le_refl _) (.cells #[] 86))
  clear b01 row1 hw1
  go_enter Try.func39, Try.ntmps39
  go_wp2_with fail
  rw [← HW1.out]
  clear HW1
  go_loopw [8, 6, 7] (fun iv ov pv wr => ∃ (s : Nat) (M : List (ByteArray × Ent)) (lv : Value) (pt : Bool), s ≤ n ∧ iv = .int .i64 s ∧ lv = ov ∧ pv = .bool pt ∧ PutI i (⟨ev, ed, el, ez, eg, es⟩ : Ent) L s pt M ∧ OwnL w1.heap.size 86 7 encNw wr lv M ∧ Below w1.heap.size w1 wr) (fun iv _ _ _ => n - (intOf iv).toNat)
  case atStart => exact ⟨0, [], _, false, by omega, rfl, rfl, rfl, Or.inl ⟨rfl, fun j _ hj => absurd hj (Nat.not_lt_zero _), rfl⟩, OWN0.out, BB0.out⟩
  case round =>
    obtain ⟨s, M, lv, pt, hs, rfl, rfl, rfl, hput, hown, hb⟩ := hrel
    have OWN := Lib.hid hown
    have BL1 := Lib.hid hb
    have BL := Lib.hid (stepR B01.out hb)
    have PUT := Lib.hid hput
    have c1 := C1.out wr BL.out
    have hMl : M.length ≤ 1000001 := Nat.le_trans hput.len (by omega)
    clear hown hb hput
    by_cases hlt : s < n
    · have hkn : (s : Int) < (n : Int) := by omega
      have hsl : s < L.length := by have := HN.out; omega
      obtain ⟨b, off, hoa, hc⟩ := HX.out s hsl
      obtain ⟨x, hxx⟩ : ∃ x, x = L[s] := ⟨_, rfl⟩
      rw [← hxx] at hc
      have hlc := lt_of_cellR (hc 0 _ rfl)
      have xc : ∀ V, Below w.heap.size w V → ∀ j u, (encNw x)[j]? = some u → V.cell? ⟨b, off + s * 7 + j, none⟩ = some u := fun V hV j u hu => (hV.cell (p := ⟨b, off + s * 7 + j, none⟩) hlc).trans (hc j u hu)
      have HXX := Lib.hid hxx
      subst hoa
      clear hc hlc hxx

      have XC := Lib.hid xc
      have WJ := Lib.hid (wrI s (by omega))
      obtain ⟨xi, ⟨xv, xd, xl, xz, xg, xs⟩⟩ := x
      have x0 := xc wr BL.out 0 _ rfl
      rw [Nat.add_zero] at x0
      have x1 := xc wr BL.out 1 _ rfl
      have x2 := xc wr BL.out 2 _ rfl
      have x3 := xc wr BL.out 3 _ rfl
      have x4 := xc wr BL.out 4 _ rfl
      have x5 := xc wr BL.out 5 _ rfl
      have x6 := xc wr BL.out 6 _ rfl

      clear xc
      cases hless : Op.bytesLess xi.toList i.toList with
      | true =>
        have q1 : (xi.toList == i.toList) = false := by
          rcases beqI xi i with ⟨_, q2⟩ | ⟨q1, _⟩
          · exact absurd q2 (less_ne hless)
          · exact q1
        have PUT2 := Lib.hid (PUT.out.add hsl (by rw [← HXX.out]; exact less_ne hless) (Or.inr (by rw [← HXX.out]; exact hless)))
        rw [← HXX.out] at PUT2
        obtain ⟨ii, zz, i1, i2, i3, i4, i5⟩ := nw_info
        have I1a := Lib.hid i1
        have I2a := Lib.hid i2
        have I3a := Lib.hid i3
        have I4a := Lib.hid i4
        have I5a := Lib.hid i5
        have HNWa := Lib.hid (heap_alloc_new wr (.cells #[.string xi, .int .u64 (xv : Int), .int .u64 (xd : Int), .bool xl, .int .i64 xz, .int .i64 xg, .int .i64 xs] (86 : Nat)))
        have HSa := Lib.hid (alloc_sizeR wr (.cells #[.string xi, .int .u64 (xv : Int), .int .u64 (xd : Int), .bool xl, .int .i64 xz, .int .i64 xg, .int .i64 xs] (86 : Nat)))
        have OWAa := Lib.hid ((OWN.out).alloc (.cells #[.string xi, .int .u64 (xv : Int), .int .u64 (xd : Int), .bool xl, .int .i64 xz, .int .i64 xg, .int .i64 xs] (86 : Nat)))
        clear i1 i2 i3 i4 i5
        go_wp2_with (at_builtin; go_loud (refine wpList_append_lies _ rfl _ _ 27 rfl w1.heap.size 86 ii zz 7 64 Try.underlying27 I1a.out I2a.out I3a.out I4a.out I5a.out (by decide) lv M.length (M.flatMap encNw) rfl ?q2h0 ⟨wr.heap.size, 0, none⟩ 1 1 [.string xi, .int .u64 (xv : Int), .int .u64 (xd : Int), .bool xl, .int .i64 xz, .int .i64 xg, .int .i64 xs] rfl rfl ?q2h1 ?q2h2 ?q2h3 ?q2h4 ?q2h5 ?q2h6 _ rfl ?_))
        case q2h0 => exact OWAa.out
        (try case q2h1 => exact World.news_of_block HNWa.out)
        case q2h2 => simp [Value.oneCell']
        (try case q2h3 => decide)
        case q2h4 => simp only [maxLen]; omega
        case q2h5 => omega
        case q2h6 => have := BL1.out.size; have := HSa.out; omega
        intro ga capa wa howna hg hw hlt
        have owa : OwnL w1.heap.size 86 7 encNw wa (.slice (some ⟨ga, 0, none⟩) (M.length + 1) capa) (M ++ [(xi, (⟨xv, xd, xl, xz, xg, xs⟩ : Ent))]) := by show World.ownsRow _ _ _ _ _ (M ++ [_]).length ((M ++ [_]).flatMap encNw); rw [flat_snoc, List.length_append]; exact howna
        have bwa := (BL1.out.trans ((Below.refl _ _).alloc BL1.out.size _)).trans (below_grownR hg (fun k hk => (own_geR OWAa.out k hk).1) (by have := BL1.out.size; have := HSa.out; omega))
        obtain ⟨lva, hlva⟩ : ∃ v, v = Value.slice (some ⟨ga, 0, none⟩) (M.length + 1) capa := ⟨_, rfl⟩
        rw [← hlva] at owa ⊢
        have OWa := Lib.hid owa
        have BWa := Lib.hid bwa
        clear howna hg hw hlt owa bwa hlva

        clear x0 x1 x2 x3 x4 x5 x6 c1 q1 hless
        go_wp2_with fail
        go_roundw
        case rel => exact ⟨s + 1, _, _, _, by omega, by first | rfl | (rw [WJ.out]), rfl, rfl, PUT2.out, OWa.out, BWa.out⟩
        case measure => (try rw [WJ.out]); simp only [intOf, Int.toNat_natCast]; omega

      | false =>
        cases pt with
        | true =>
          rcases beqI xi i with ⟨q1, q2⟩ | ⟨q1, q2⟩
          · have PUT2 := Lib.hid (PUT.out.skip hsl (by rw [← HXX.out]; exact q2))
            clear q2
            go_wp2_with fail
            go_roundw
            case rel => exact ⟨s + 1, _, _, _, by omega, by first | rfl | (rw [WJ.out]), rfl, rfl, PUT2.out, OWN.out, BL1.out⟩
            case measure => (try rw [WJ.out]); simp only [intOf, Int.toNat_natCast]; omega

          · have PUT2 := Lib.hid (PUT.out.add hsl (by rw [← HXX.out]; exact q2) (Or.inl rfl))
            rw [← HXX.out] at PUT2
            clear q2
            obtain ⟨ii, zz, i1, i2, i3, i4, i5⟩ := nw_info
            have I1a := Lib.hid i1
            have I2a := Lib.hid i2
            have I3a := Lib.hid i3
            have I4a := Lib.hid i4
            have I5a := Lib.hid i5
            have HNWa := Lib.hid (heap_alloc_new wr (.cells #[.string xi, .int .u64 (xv : Int), .int .u64 (xd : Int), .bool xl, .int .i64 xz, .int .i64 xg, .int .i64 xs] (86 : Nat)))
            have HSa := Lib.hid (alloc_sizeR wr (.cells #[.string xi, .int .u64 (xv : Int), .int .u64 (xd : Int), .bool xl, .int .i64 xz, .int .i64 xg, .int .i64 xs] (86 : Nat)))
            have OWAa := Lib.hid ((OWN.out).alloc (.cells #[.string xi, .int .u64 (xv : Int), .int .u64 (xd : Int), .bool xl, .int .i64 xz, .int .i64 xg, .int .i64 xs] (86 : Nat)))
            clear i1 i2 i3 i4 i5
            go_wp2_with (at_builtin; go_loud (refine wpList_append_lies _ rfl _ _ 27 rfl w1.heap.size 86 ii zz 7 64 Try.underlying27 I1a.out I2a.out I3a.out I4a.out I5a.out (by decide) lv M.length (M.flatMap encNw) rfl ?q3h0 ⟨wr.heap.size, 0, none⟩ 1 1 [.string xi, .int .u64 (xv : Int), .int .u64 (xd : Int), .bool xl, .int .i64 xz, .int .i64 xg, .int .i64 xs] rfl rfl ?q3h1 ?q3h2 ?q3h3 ?q3h4 ?q3h5 ?q3h6 _ rfl ?_))
            case q3h0 => exact OWAa.out
            (try case q3h1 => exact World.news_of_block HNWa.out)
            case q3h2 => simp [Value.oneCell']
            (try case q3h3 => decide)
            case q3h4 => simp only [maxLen]; omega
            case q3h5 => omega
            case q3h6 => have := BL1.out.size; have := HSa.out; omega
            intro ga capa wa howna hg hw hlt
            have owa : OwnL w1.heap.size 86 7 encNw wa (.slice (some ⟨ga, 0, none⟩) (M.length + 1) capa) (M ++ [(xi, (⟨xv, xd, xl, xz, xg, xs⟩ : Ent))]) := by show World.ownsRow _ _ _ _ _ (M ++ [_]).length ((M ++ [_]).flatMap encNw); rw [flat_snoc, List.length_append]; exact howna
            have bwa := (BL1.out.trans ((Below.refl _ _).alloc BL1.out.size _)).trans (below_grownR hg (fun k hk => (own_geR OWAa.out k hk).1) (by have := BL1.out.size; have := HSa.out; omega))
            obtain ⟨lva, hlva⟩ : ∃ v, v = Value.slice (some ⟨ga, 0, none⟩) (M.length + 1) capa := ⟨_, rfl⟩
            rw [← hlva] at owa ⊢
            have OWa := Lib.hid owa
            have BWa := Lib.hid bwa
            clear howna hg hw hlt owa bwa hlva

            clear x0 x1 x2 x3 x4 x5 x6 c1 q1 hless
            go_wp2_with fail
            go_roundw
            case rel => exact ⟨s + 1, _, _, _, by omega, by first | rfl | (rw [WJ.out]), rfl, rfl, PUT2.out, OWa.out, BWa.out⟩
            case measure => (try rw [WJ.out]); simp only [intOf, Int.toNat_natCast]; omega

        | false =>
          have PP := Lib.hid (PUT.out.put hsl (by rw [← HXX.out]; exact hless))
          rw [← HXX.out] at PP
          have k0 := (cell_of_row _ _ 0 _ _ _ ((BL1.out.block _ (lt_of_rowR ROW1.out)).trans ROW1.out)).trans (show _ = some (.int .u64 (ev : Int)) from rfl)
          have k1 := (cell_of_row _ _ 1 _ _ _ ((BL1.out.block _ (lt_of_rowR ROW1.out)).trans ROW1.out)).trans (show _ = some (.int .u64 (ed : Int)) from rfl)
          have k2 := (cell_of_row _ _ 2 _ _ _ ((BL1.out.block _ (lt_of_rowR ROW1.out)).trans ROW1.out)).trans (show _ = some (.bool el) from rfl)
          have k3 := (cell_of_row _ _ 3 _ _ _ ((BL1.out.block _ (lt_of_rowR ROW1.out)).trans ROW1.out)).trans (show _ = some (.int .i64 ez) from rfl)
          have k4 := (cell_of_row _ _ 4 _ _ _ ((BL1.out.block _ (lt_of_rowR ROW1.out)).trans ROW1.out)).trans (show _ = some (.int .i64 eg) from rfl)
          have k5 := (cell_of_row _ _ 5 _ _ _ ((BL1.out.block _ (lt_of_rowR ROW1.out)).trans ROW1.out)).trans (show _ = some (.int .i64 es) from rfl)
          obtain ⟨ii, zz, i1, i2, i3, i4, i5⟩ := nw_info
          have I1a := Lib.hid i1
          have I2a := Lib.hid i2
          have I3a := Lib.hid i3
          have I4a := Lib.hid i4
          have I5a := Lib.hid i5
          have HNWa := Lib.hid (heap_alloc_new wr (.cells #[.string i, .int .u64 (ev : Int), .int .u64 (ed : Int), .bool el, .int .i64 ez, .int .i64 eg, .int .i64 es] (86 : Nat)))
          have HSa := Lib.hid (alloc_sizeR wr (.cells #[.string i, .int .u64 (ev : Int), .int .u64 (ed : Int), .bool el, .int .i64 ez, .int .i64 eg, .int .i64 es] (86 : Nat)))
          have OWAa := Lib.hid ((OWN.out).alloc (.cells #[.string i, .int .u64 (ev : Int), .int .u64 (ed : Int), .bool el, .int .i64 ez, .int .i64 eg, .int .i64 es] (86 : Nat)))
          clear i1 i2 i3 i4 i5
          go_wp2_with (at_builtin; go_loud (refine wpList_append_lies _ rfl _ _ 27 rfl w1.heap.size 86 ii zz 7 64 Try.underlying27 I1a.out I2a.out I3a.out I4a.out I5a.out (by decide) lv M.length (M.flatMap encNw) rfl ?q4h0 ⟨wr.heap.size, 0, none⟩ 1 1 [.string i, .int .u64 (ev : Int), .int .u64 (ed : Int), .bool el, .int .i64 ez, .int .i64 eg, .int .i64 es] rfl rfl ?q4h1 ?q4h2 ?q4h3 ?q4h4 ?q4h5 ?q4h6 _ rfl ?_))
          case q4h0 => exact OWAa.out
          (try case q4h1 => exact World.news_of_block HNWa.out)
          case q4h2 => simp [Value.oneCell']
          (try case q4h3 => decide)
          case q4h4 => simp only [maxLen]; omega
          case q4h5 => omega
          case q4h6 => have := BL1.out.size; have := HSa.out; omega
          intro ga capa wa howna hg hw hlt
          have owa : OwnL w1.heap.size 86 7 encNw wa (.slice (some ⟨ga, 0, none⟩) (M.length + 1) capa) (M ++ [(i, (⟨ev, ed, el, ez, eg, es⟩ : Ent))]) := by show World.ownsRow _ _ _ _ _ (M ++ [_]).length ((M ++ [_]).flatMap encNw); rw [flat_snoc, List.length_append]; exact howna
          have bwa := (BL1.out.trans ((Below.refl _ _).alloc BL1.out.size _)).trans (below_grownR hg (fun k hk => (own_geR OWAa.out k hk).1) (by have := BL1.out.size; have := HSa.out; omega))
          obtain ⟨lva, hlva⟩ : ∃ v, v = Value.slice (some ⟨ga, 0, none⟩) (M.length + 1) capa := ⟨_, rfl⟩
          rw [← hlva] at owa ⊢
          have OWa := Lib.hid owa
          have BWa := Lib.hid bwa
          clear howna hg hw hlt owa bwa hlva

          obtain ⟨M2, hM2⟩ : ∃ M2, M2 = M ++ [(i, (⟨ev, ed, el, ez, eg, es⟩ : Ent))] := ⟨_, rfl⟩
          have hM2l : M2.length ≤ 1000002 := by rw [hM2, List.length_append]; simp; omega
          rw [← hM2] at OWa
          have HM2 := Lib.hid hM2
          have BLa := Lib.hid (stepR B01.out BWa.out)
          clear k0 k1 k2 k3 k4 k5 x0 x1 x2 x3 x4 x5 x6 c1 hM2
          have y0 := XC.out wa BLa.out 0 _ rfl
          rw [Nat.add_zero] at y0
          have y1 := XC.out wa BLa.out 1 _ rfl
          have y2 := XC.out wa BLa.out 2 _ rfl
          have y3 := XC.out wa BLa.out 3 _ rfl
          have y4 := XC.out wa BLa.out 4 _ rfl
          have y5 := XC.out wa BLa.out 5 _ rfl
          have y6 := XC.out wa BLa.out 6 _ rfl
          have yc := C1.out wa BLa.out

          rcases beqI xi i with ⟨q1, q2⟩ | ⟨q1, q2⟩
          · have PUT2 := Lib.hid (PP.out [] (by rw [if_pos q2]))
            rw [List.append_nil] at PUT2
            rw [← HM2.out] at PUT2
            clear q2
            go_wp2_with fail
            go_roundw
            case rel => exact ⟨s + 1, _, _, _, by omega, by first | rfl | (rw [WJ.out]), rfl, rfl, PUT2.out, OWa.out, BWa.out⟩
            case measure => (try rw [WJ.out]); simp only [intOf, Int.toNat_natCast]; omega

          · have PUT2 := Lib.hid (PP.out [(xi, (⟨xv, xd, xl, xz, xg, xs⟩ : Ent))] (by rw [if_neg q2]))
            rw [← HM2.out] at PUT2
            clear q2
            obtain ⟨ii, zz, i1, i2, i3, i4, i5⟩ := nw_info
            have I1b := Lib.hid i1
            have I2b := Lib.hid i2
            have I3b := Lib.hid i3
            have I4b := Lib.hid i4
            have I5b := Lib.hid i5
            have HNWb := Lib.hid (heap_alloc_new wa (.cells #[.string xi, .int .u64 (xv : Int), .int .u64 (xd : Int), .bool xl, .int .i64 xz, .int .i64 xg, .int .i64 xs] (86 : Nat)))
            have HSb := Lib.hid (alloc_sizeR wa (.cells #[.string xi, .int .u64 (xv : Int), .int .u64 (xd : Int), .bool xl, .int .i64 xz, .int .i64 xg, .int .i64 xs] (86 : Nat)))
            have OWAb := Lib.hid ((OWa.out).alloc (.cells #[.string xi, .int .u64 (xv : Int), .int .u64 (xd : Int), .bool xl, .int .i64 xz, .int .i64 xg, .int .i64 xs] (86 : Nat)))
            clear i1 i2 i3 i4 i5
            go_wp2_with (at_builtin; go_loud (refine wpList_append_lies _ rfl _ _ 27 rfl w1.heap.size 86 ii zz 7 64 Try.underlying27 I1b.out I2b.out I3b.out I4b.out I5b.out (by decide) lva M2.length (M2.flatMap encNw) rfl ?q5h0 ⟨wa.heap.size, 0, none⟩ 1 1 [.string xi, .int .u64 (xv : Int), .int .u64 (xd : Int), .bool xl, .int .i64 xz, .int .i64 xg, .int .i64 xs] rfl rfl ?q5h1 ?q5h2 ?q5h3 ?q5h4 ?q5h5 ?q5h6 _ rfl ?_))
            case q5h0 => exact OWAb.out
            (try case q5h1 => exact World.news_of_block HNWb.out)
            case q5h2 => simp [Value.oneCell']
            (try case q5h3 => decide)
            case q5h4 => simp only [maxLen]; omega
            case q5h5 => omega
            case q5h6 => have := BWa.out.size; have := HSb.out; omega
            intro gb capb wb hownb hg hw hlt
            have owb : OwnL w1.heap.size 86 7 encNw wb (.slice (some ⟨gb, 0, none⟩) (M2.length + 1) capb) (M2 ++ [(xi, (⟨xv, xd, xl, xz, xg, xs⟩ : Ent))]) := by show World.ownsRow _ _ _ _ _ (M2 ++ [_]).length ((M2 ++ [_]).flatMap encNw); rw [flat_snoc, List.length_append]; exact hownb
            have bwb := (BWa.out.trans ((Below.refl _ _).alloc BWa.out.size _)).trans (below_grownR hg (fun k hk => (own_geR OWAb.out k hk).1) (by have := BWa.out.size; have := HSb.out; omega))
            obtain ⟨lvb, hlvb⟩ : ∃ v, v = Value.slice (some ⟨gb, 0, none⟩) (M2.length + 1) capb := ⟨_, rfl⟩
            rw [← hlvb] at owb ⊢
            have OWb := Lib.hid owb
            have BWb := Lib.hid bwb
            clear hownb hg hw hlt owb bwb hlvb

            clear y0 y1 y2 y3 y4 y5 y6 yc q1 hless
            go_wp2_with fail
            go_roundw
            case rel => exact ⟨s + 1, _, _, _, by omega, by first | rfl | (rw [WJ.out]), rfl, rfl, PUT2.out, OWb.out, BWb.out⟩
            case measure => (try rw [WJ.out]); simp only [intOf, Int.toNat_natCast]; omega

    · have hkn : ¬ (s : Int) < (n : Int) := by omega
      have hsn : s = L.length := by have := HN.out; omega
      rw [hsn] at PUT
      clear hlt
      cases pt with
      | true =>
        have SET := Lib.hid (PUT.out.done_t)
        obtain ⟨ol, cl, hlv⟩ := (own_lr (k := 7) (enc := encNw) (fun _ => rfl) OWN.out).form
        obtain ⟨nl, hnl⟩ : ∃ m, m = M.length := ⟨_, rfl⟩
        rw [← hnl] at hlv
        subst hlv
        have fin := HRI.out.setL BL.out (own_base OWN.out (by have := HS1.out; omega))
        have FIN := Lib.hid fin
        have rowr := (HRI.out.below BL.out).row
        have fz := frozen_of_row _ _ 1 _ _ rowr
        clear fin rowr hsn hnl hMl
        go_wp2_with fail
        refine bodyPost_end (v := .tuple #[]) (by rw [results_none rfl]) rfl ⟨rfl, ⟨_, _, SET.out, FIN.out.1⟩, FIN.out.2⟩
      | false =>
        have SET := Lib.hid (PUT.out.done_f)
        have k0 := (cell_of_row _ _ 0 _ _ _ ((BL1.out.block _ (lt_of_rowR ROW1.out)).trans ROW1.out)).trans (show _ = some (.int .u64 (ev : Int)) from rfl)
        have k1 := (cell_of_row _ _ 1 _ _ _ ((BL1.out.block _ (lt_of_rowR ROW1.out)).trans ROW1.out)).trans (show _ = some (.int .u64 (ed : Int)) from rfl)
        have k2 := (cell_of_row _ _ 2 _ _ _ ((BL1.out.block _ (lt_of_rowR ROW1.out)).trans ROW1.out)).trans (show _ = some (.bool el) from rfl)
        have k3 := (cell_of_row _ _ 3 _ _ _ ((BL1.out.block _ (lt_of_rowR ROW1.out)).trans ROW1.out)).trans (show _ = some (.int .i64 ez) from rfl)
        have k4 := (cell_of_row _ _ 4 _ _ _ ((BL1.out.block _ (lt_of_rowR ROW1.out)).trans ROW1.out)).trans (show _ = some (.int .i64 eg) from rfl)
        have k5 := (cell_of_row _ _ 5 _ _ _ ((BL1.out.block _ (lt_of_rowR ROW1.out)).trans ROW1.out)).trans (show _ = some (.int .i64 es) from rfl)
        clear hsn
        obtain ⟨ii, zz, i1, i2, i3, i4, i5⟩ := nw_info
        have I1a := Lib.hid i1
        have I2a := Lib.hid i2
        have I3a := Lib.hid i3
        have I4a := Lib.hid i4
        have I5a := Lib.hid i5
        have HNWa := Lib.hid (heap_alloc_new wr (.cells #[.string i, .int .u64 (ev : Int), .int .u64 (ed : Int), .bool el, .int .i64 ez, .int .i64 eg, .int .i64 es] (86 : Nat)))
        have HSa := Lib.hid (alloc_sizeR wr (.cells #[.string i, .int .u64 (ev : Int), .int .u64 (ed : Int), .bool el, .int .i64 ez, .int .i64 eg, .int .i64 es] (86 : Nat)))
        have OWAa := Lib.hid ((OWN.out).alloc (.cells #[.string i, .int .u64 (ev : Int), .int .u64 (ed : Int), .bool el, .int .i64 ez, .int .i64 eg, .int .i64 es] (86 : Nat)))
        clear i1 i2 i3 i4 i5
        go_wp2_with (at_builtin; go_loud (refine wpList_append_lies _ rfl _ _ 27 rfl w1.heap.size 86 ii zz 7 64 Try.underlying27 I1a.out I2a.out I3a.out I4a.out I5a.out (by decide) lv M.length (M.flatMap encNw) rfl ?q6h0 ⟨wr.heap.size, 0, none⟩ 1 1 [.string i, .int .u64 (ev : Int), .int .u64 (ed : Int), .bool el, .int .i64 ez, .int .i64 eg, .int .i64 es] rfl rfl ?q6h1 ?q6h2 ?q6h3 ?q6h4 ?q6h5 ?q6h6 _ rfl ?_))
        case q6h0 => exact OWAa.out
        (try case q6h1 => exact World.news_of_block HNWa.out)
        case q6h2 => simp [Value.oneCell']
        (try case q6h3 => decide)
        case q6h4 => simp only [maxLen]; omega
        case q6h5 => omega
        case q6h6 => have := BL1.out.size; have := HSa.out; omega
        intro ga capa wa howna hg hw hlt
        have owa : OwnL w1.heap.size 86 7 encNw wa (.slice (some ⟨ga, 0, none⟩) (M.length + 1) capa) (M ++ [(i, (⟨ev, ed, el, ez, eg, es⟩ : Ent))]) := by show World.ownsRow _ _ _ _ _ (M ++ [_]).length ((M ++ [_]).flatMap encNw); rw [flat_snoc, List.length_append]; exact howna
        have bwa := (BL1.out.trans ((Below.refl _ _).alloc BL1.out.size _)).trans (below_grownR hg (fun k hk => (own_geR OWAa.out k hk).1) (by have := BL1.out.size; have := HSa.out; omega))
        obtain ⟨lva, hlva⟩ : ∃ v, v = Value.slice (some ⟨ga, 0, none⟩) (M.length + 1) capa := ⟨_, rfl⟩
        rw [← hlva] at owa ⊢
        have OWa := Lib.hid owa
        have BWa := Lib.hid bwa
        clear howna hg hw hlt owa bwa hlva

        have BLa := Lib.hid (stepR B01.out BWa.out)
        obtain ⟨ol, cl, hlv⟩ := (own_lr (k := 7) (enc := encNw) (fun _ => rfl) OWa.out).form
        obtain ⟨nl, hnl⟩ : ∃ m, m = (M ++ [(i, (⟨ev, ed, el, ez, eg, es⟩ : Ent))]).length := ⟨_, rfl⟩
        rw [← hnl] at hlv
        subst hlv
        have fin := HRI.out.setL BLa.out (own_base OWa.out (by have := HS1.out; omega))
        have FIN := Lib.hid fin
        have rowr := (HRI.out.below BLa.out).row
        have fz := frozen_of_row _ _ 1 _ _ rowr
        have c2 := C1.out _ BLa.out
        clear fin rowr hnl k0 k1 k2 k3 k4 k5 c1
        go_wp2_with fail
        refine bodyPost_end (v := .tuple #[]) (by rw [results_none rfl]) rfl ⟨rfl, ⟨_, _, SET.out, FIN.out.1⟩, FIN.out.2⟩
end Go.Proofs.Ythpompgcnemanaa.G
