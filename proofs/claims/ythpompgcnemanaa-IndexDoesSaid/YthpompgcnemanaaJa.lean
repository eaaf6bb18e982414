/- The document's index in memory; what reads it. -/
import Derived.Test.YthpompgcnemanaaIs
import Derived.Test.YthpompgcnemanaaIx
import Derived.Test.YthpompgcnemanaaGFast
import Derived.BigQuiet
import Derived.Deep.AppendLies
import Derived.Deep.WholeRow
import Derived.Laws.Cover1
import Derived.Sort.Walk0
namespace Go.Proofs.Ythpompgcnemanaa.G
open Go.RowKit Go.Maps Go.Proofs Go.Proofs.Ythpompgcnemanaa.WordPlain Go.Proofs.Ythpompgcnemanaa.Loose
set_option linter.unusedVariables false
set_option linter.unusedSimpArgs false

abbrev encSt (p : Plc × ByteArray) : List Value := [.string p.2, .int .i64 p.1.1, .int .i64 p.1.2]
abbrev encNw (p : ByteArray × Ent) : List Value := [.string p.1, .int .u64 (p.2.ver : Int), .int .u64 (p.2.dl : Int), .bool p.2.live, .int .i64 p.2.sz, .int .i64 p.2.seg, .int .i64 p.2.slot]
/-- the document's index at R: what stands, and the newest -/
structure RI (w : World) (R : Nat) (vS vL : Value) (S : List (Plc × ByteArray)) (L : List (ByteArray × Ent)) : Prop where
  row : w.heap[R]? = some (.cells #[vS, vL] 29 (0, 0))
  st : OwnL (R + 1) 89 3 encSt w vS S
  ls : OwnL (R + 1) 86 7 encNw w vL L
  ap : ∀ k, some k = vS.ownBlock → some k ≠ vL.ownBlock
theorem own_same {w w' : World} {base k : Nat} {ty : TypeId} {α : Type} {enc : α → List Value} {v : Value} {l : List α} (h : OwnL base ty k enc w v l) (hk : ∀ g, some g = v.ownBlock → w'.heap[g]? = w.heap[g]?) : OwnL base ty k enc w' v l := by
  refine ⟨h.1, ?_⟩
  rcases h.2 with hn | ⟨g, cap, cur, rfl, hb, hgg, rest⟩
  · exact .inl hn
  · exact .inr ⟨g, cap, cur, rfl, hb, (hk g rfl).trans hgg, rest⟩
theorem RI.keep {w w' : World} {R : Nat} {vS vL : Value} {S : List (Plc × ByteArray)} {L : List (ByteArray × Ent)} (h : RI w R vS vL S L) (hk : ∀ g, R ≤ g → g < w.heap.size → w'.heap[g]? = w.heap[g]?) : RI w' R vS vL S L :=
  ⟨(hk R (Nat.le_refl _) (lt_of_rowR h.row)).trans h.row, own_same h.st (fun g hg => hk g (by have := (own_geR h.st g hg).1; omega) (own_geR h.st g hg).2), own_same h.ls (fun g hg => hk g (by have := (own_geR h.ls g hg).1; omega) (own_geR h.ls g hg).2), h.ap⟩
theorem RI.below {w w' : World} {R : Nat} {vS vL : Value} {S : List (Plc × ByteArray)} {L : List (ByteArray × Ent)} (h : RI w R vS vL S L) (hb : Below w.heap.size w w') : RI w' R vS vL S L := h.keep fun g _ hg => hb.block g hg
theorem RI.mq {w w' : World} {R p b : Nat} {vS vL : Value} {S : List (Plc × ByteArray)} {L : List (ByteArray × Ent)} (h : RI w R vS vL S L) (m : Mq p b w w') (hp : p < R) (hb : b < R) : RI w' R vS vL S L := h.keep fun g h1 h2 => m.block g h2 (by omega) (by omega)
theorem setCell_sizeI (w : World) (p : Addr) (v : Value) : (w.setCell p v).heap.size = w.heap.size := by
  unfold World.setCell
  split <;> simp
/-- nothing has turned but the blocks that P names -/
structure Fw (P : Nat → Prop) (w w' : World) : Prop where
  os : w'.os = w.os
  tape : w'.tape = w.tape
  output : w'.output = w.output
  size : w.heap.size ≤ w'.heap.size
  block : ∀ i, i < w.heap.size → ¬ P i → w'.heap[i]? = w.heap[i]?
theorem Fw.of_below {P : Nat → Prop} {w w' : World} (h : Below w.heap.size w w') : Fw P w w' := ⟨h.os, h.tape, h.output, h.size, fun i hi _ => h.block i hi⟩
theorem Fw.trans {P : Nat → Prop} {w w1 w2 : World} (h : Fw P w w1) (k : Fw P w1 w2) : Fw P w w2 := ⟨k.os.trans h.os, k.tape.trans h.tape, k.output.trans h.output, Nat.le_trans h.size k.size, fun i hi hp => (k.block i (Nat.lt_of_lt_of_le hi h.size) hp).trans (h.block i hi hp)⟩
theorem Fw.mono {P P' : Nat → Prop} {w w' : World} (h : Fw P w w') (hp : ∀ i, i < w.heap.size → P i → P' i) : Fw P' w w' := ⟨h.os, h.tape, h.output, h.size, fun i hi hn => h.block i hi (fun hh => hn (hp i hi hh))⟩
theorem Fw.below {P : Nat → Prop} {B : Nat} {w w' : World} (h : Fw P w w') (hp : ∀ i, P i → B ≤ i) (hB : B ≤ w.heap.size) : Below B w w' := ⟨h.os, h.tape, h.output, h.size, fun i hi => h.block i (by omega) (fun hh => by have := hp i hh; omega)⟩
theorem Fw.row {P : Nat → Prop} {w w' : World} {i : Nat} {o : Obj} (h : Fw P w w') (hi : w.heap[i]? = some o) (hp : ¬ P i) : w'.heap[i]? = some o := (h.block i (lt_of_rowR hi) hp).trans hi
theorem Fw.cell {P : Nat → Prop} {w w' : World} {R f : Nat} {u : Value} (h : Fw P w w') (hp : P R) : Fw P w (w'.setCell ⟨R, f, none⟩ u) := ⟨h.os, h.tape, h.output, by rw [setCell_sizeI]; exact h.size, fun i hi hn => (heap_setCell_other _ _ _ _ (by rintro rfl; exact hn hp)).trans (h.block i hi hn)⟩
theorem sum_take {α : Type} (g : α → Int) {l : List α} {s : Nat} (h : s < l.length) : ((l.take (s + 1)).map g).sum = ((l.take s).map g).sum + g l[s] := by
  rw [List.take_succ_eq_append_getElem h, List.map_append, List.sum_append]; simp
theorem beqI (a b : ByteArray) : ((a.toList == b.toList) = true ∧ a = b) ∨ ((a.toList == b.toList) = false ∧ a ≠ b) := by
  by_cases h : a = b
  · exact Or.inl ⟨by rw [h]; exact beq_self_eq_true _, h⟩
  · refine Or.inr ⟨beq_eq_false_iff_ne.2 (fun e => h ?_), h⟩
    rw [ByteArray.toList_eq, ByteArray.toList_eq] at e
    exact ByteArray.ext (Array.toList_inj.1 e)
/-- the place of an id's newest -/
def FindI (i : ByteArray) (L : List (ByteArray × Ent)) (k : Int) : Prop := (k = -1 ∧ ∀ j (hj : j < L.length), L[j].1 ≠ i) ∨ ∃ j, ∃ hj : j < L.length, k = (j : Int) ∧ L[j].1 = i
set_option maxRecDepth 100000 in
set_option maxHeartbeats 8000000 in
theorem rfind_val (w : World) (R : Nat) (vS vL : Value) (S : List (Plc × ByteArray)) (L : List (ByteArray × Ent)) (i : ByteArray) (h : RI w R vS vL S L) (hl : L.length ≤ 1000000) :
    Calls Try.prog 38 #[.pointer (some ⟨R, 0, none⟩), .string i] w fun e w' => (∃ k, e = .returned (.int .i64 k) ∧ FindI i L k) ∧ Below w.heap.size w w' := by
  have hlr := own_lr (k := 7) (enc := encNw) (fun _ => rfl) h.ls
  obtain ⟨oa, cap, rfl, _, hx⟩ := hlr
  obtain ⟨n, hn⟩ : ∃ n, n = L.length := ⟨_, rfl⟩
  have hrow := h.row
  rw [← hn] at hrow hl
  have c1 : ∀ V, Below w.heap.size w V → V.cell? ⟨R, 1, none⟩ = some (.slice oa n cap) := fun V hV => (cell_of_row _ _ 1 _ _ _ ((hV.block _ (lt_of_rowR hrow)).trans hrow)).trans rfl
  have HX := Lib.hid hx
  have HN := Lib.hid hn
  have C1 := Lib.hid c1
  have HRI := Lib.hid h
  clear hx hn hrow c1 h

  go_enter Try.func38, Try.ntmps38
  go_wp2_with fail
  go_loopw [5] (fun iv wr => ∃ s : Nat, s ≤ n ∧ iv = .int .i64 s ∧ (∀ j (hj : j < L.length), j < s → L[j].1 ≠ i) ∧ Below w.heap.size w wr) (fun iv _ => n - (intOf iv).toNat)
  case atStart => exact ⟨0, by omega, rfl, fun j _ hj => absurd hj (by omega), Below.refl _ _⟩
  case round =>
    obtain ⟨s, hs, rfl, hno, hb⟩ := hrel
    have NO := Lib.hid hno
    have BL := Lib.hid hb
    have c1 := C1.out wr hb
    clear hno hb
    by_cases hlt : s < n
    · have hkn : (s : Int) < (n : Int) := by omega
      have hsl : s < L.length := by have := HN.out; omega
      obtain ⟨b, off, hoa, hc⟩ := HX.out s hsl
      obtain ⟨x, hxx⟩ : ∃ x, x = L[s] := ⟨_, rfl⟩
      rw [← hxx] at hc
      have hlc := lt_of_cellR (hc 0 _ rfl)
      have xc : ∀ V, Below w.heap.size w V → ∀ j u, (encNw x)[j]? = some u → V.cell? ⟨b, off + s * 7 + j, none⟩ = some u := fun V hV j u hu => (hV.cell (p := ⟨b, off + s * 7 + j, none⟩) hlc).trans (hc j u hu)
      have HXX := Lib.hid hxx
      subst hoa
      clear hc hlc hxx

      have HNE : Hid (x.1 ≠ i → ∀ j (hj : j < L.length), j < s + 1 → L[j].1 ≠ i) := Lib.hid (fun h2 j hj h1 => by
        by_cases e : j = s
        · subst e; rw [← HXX.out]; exact h2
        · exact NO.out j hj (by omega))
      have HAT : Hid (x.1 = i → FindI i L (s : Int)) := Lib.hid (fun h => Or.inr ⟨s, hsl, rfl, by rw [← HXX.out]; exact h⟩)
      have WJ := Lib.hid (wrI s (by omega))
      obtain ⟨xi, ⟨xv, xd, xl, xz, xg, xs⟩⟩ := x
      have x0 := xc wr BL.out 0 _ rfl
      rw [Nat.add_zero] at x0

      clear xc
      rcases beqI xi i with ⟨q1, q2⟩ | ⟨q1, q2⟩
      · have Q2 := Lib.hid q2
        clear q2
        go_wp2_with fail
        go_ret
        exact ⟨⟨_, rfl, HAT.out Q2.out⟩, BL.out⟩
      · have Q2 := Lib.hid q2
        clear q2
        go_wp2_with fail
        go_roundw
        case rel => exact ⟨s + 1, by omega, by first | rfl | (rw [WJ.out]), fun j hj h1 => HNE.out Q2.out j hj h1, BL.out⟩
        case measure => (try rw [WJ.out]); simp only [intOf, Int.toNat_natCast]; omega
    · have hkn : ¬ (s : Int) < (n : Int) := by omega
      go_wp2_with fail
      go_ret
      exact ⟨⟨_, rfl, Or.inl ⟨rfl, fun j hj => NO.out j hj (by have := HN.out; omega)⟩⟩, BL.out⟩
set_option maxRecDepth 100000 in
set_option maxHeartbeats 8000000 in
theorem rOthers_val (w : World) (R : Nat) (vS vL : Value) (S : List (Plc × ByteArray)) (L : List (ByteArray × Ent)) (i : ByteArray) (sg : Int) (h : RI w R vS vL S L) (hl : S.length ≤ 1000000) :
    Calls Try.prog 31 #[.pointer (some ⟨R, 0, none⟩), .string i, .int .i64 sg] w fun e w' => e = .returned (.int .i64 (S.map (othG i sg)).sum) ∧ Below w.heap.size w w' := by
  have hlr := own_lr (k := 3) (enc := encSt) (fun _ => rfl) h.st
  obtain ⟨oa, cap, rfl, _, hx⟩ := hlr
  obtain ⟨n, hn⟩ : ∃ n, n = S.length := ⟨_, rfl⟩
  have hrow := h.row
  rw [← hn] at hrow hl
  have c1 : ∀ V, Below w.heap.size w V → V.cell? ⟨R, 0, none⟩ = some (.slice oa n cap) := fun V hV => (cell_of_row _ _ 0 _ _ _ ((hV.block _ (lt_of_rowR hrow)).trans hrow)).trans rfl
  have HX := Lib.hid hx
  have HN := Lib.hid hn
  have C1 := Lib.hid c1
  have HRI := Lib.hid h
  clear hx hn hrow c1 h

  go_enter Try.func31, Try.ntmps31
  go_wp2_with fail
  go_loopw [8, 7] (fun iv tv wr => ∃ s : Nat, s ≤ n ∧ iv = .int .i64 s ∧ tv = .int .i64 ((S.take s).map (othG i sg)).sum ∧ Below w.heap.size w wr) (fun iv _ _ => n - (intOf iv).toNat)
  case atStart => exact ⟨0, by omega, rfl, rfl, Below.refl _ _⟩
  case round =>
    obtain ⟨s, hs, rfl, rfl, hb⟩ := hrel
    have BL := Lib.hid hb
    have c1 := C1.out wr hb
    clear hb
    by_cases hlt : s < n
    · have hkn : (s : Int) < (n : Int) := by omega
      have hsl : s < S.length := by have := HN.out; omega
      obtain ⟨b, off, hoa, hc⟩ := HX.out s hsl
      obtain ⟨x, hxx⟩ : ∃ x, x = S[s] := ⟨_, rfl⟩
      rw [← hxx] at hc
      have hlc := lt_of_cellR (hc 0 _ rfl)
      have xc : ∀ V, Below w.heap.size w V → ∀ j u, (encSt x)[j]? = some u → V.cell? ⟨b, off + s * 3 + j, none⟩ = some u := fun V hV j u hu => (hV.cell (p := ⟨b, off + s * 3 + j, none⟩) hlc).trans (hc j u hu)
      have HXX := Lib.hid hxx
      subst hoa
      clear hc hlc hxx

      have hst := sum_take (othG i sg) hsl
      have hbd := sum_bd (f := othG i sg) (B := 1) (by decide) (l := S.take s) (fun p _ => othG_b i sg p)
      have hln : (S.take s).length ≤ 1000000 := by rw [List.length_take]; omega
      rw [← HXX.out] at hst
      obtain ⟨tk, htk⟩ : ∃ z, z = ((S.take s).map (othG i sg)).sum := ⟨_, rfl⟩
      rw [← htk] at hst hbd ⊢
      have W1_ := Lib.hid (show wrap64 (tk + 1) = tk + 1 from IntWalk.wrap64_in _ (by omega))
      have HST := Lib.hid hst
      have WJ := Lib.hid (wrI s (by omega))
      obtain ⟨⟨xg, xs⟩, xi⟩ := x
      have x0 := xc wr BL.out 0 _ rfl
      rw [Nat.add_zero] at x0
      have x1 := xc wr BL.out 1 _ rfl

      clear xc hst hbd hln htk
      rcases beqI xi i with ⟨q1, q2⟩ | ⟨q1, q2⟩
      · by_cases hg : xg = sg
        · have HST2 : Hid (((S.take (s + 1)).map (othG i sg)).sum = tk) := Lib.hid (by rw [HST.out, show othG i sg ((xg, xs), xi) = 0 from if_neg (fun h => h.1 hg)]; omega)
          have g1 : (xg = sg) = True := eq_true hg
          have g2 : (xg != sg) = false := by rw [hg]; exact bne_self_eq_false _
          have g3 : (xg == sg) = true := by rw [hg]; exact beq_self_eq_true _
          clear q2 hg
          go_wp2_with fail
          go_roundw
          case rel => exact ⟨s + 1, by omega, by first | rfl | (rw [WJ.out]), by rw [HST2.out]; first | done | rfl | rw [W1_.out], BL.out⟩
          case measure => (try rw [WJ.out]); simp only [intOf, Int.toNat_natCast]; omega
        · have HST2 : Hid (((S.take (s + 1)).map (othG i sg)).sum = tk + 1) := Lib.hid (by rw [HST.out, show othG i sg ((xg, xs), xi) = 1 from if_pos ⟨hg, q2⟩])
          have g1 : (xg = sg) = False := eq_false hg
          have g2 : (xg != sg) = true := bne_iff_ne.2 hg
          have g3 : (xg == sg) = false := beq_eq_false_iff_ne.2 hg
          have w1_ := W1_.out
          clear q2 hg
          go_wp2_with fail
          go_roundw
          case rel => exact ⟨s + 1, by omega, by first | rfl | (rw [WJ.out]), by rw [HST2.out]; first | done | rfl | rw [W1_.out], BL.out⟩
          case measure => (try rw [WJ.out]); simp only [intOf, Int.toNat_natCast]; omega
      · have HST2 : Hid (((S.take (s + 1)).map (othG i sg)).sum = tk) := Lib.hid (by rw [HST.out, show othG i sg ((xg, xs), xi) = 0 from if_neg (fun h => q2 h.2)]; omega)
        clear q2
        go_wp2_with fail
        go_roundw
        case rel => exact ⟨s + 1, by omega, by first | rfl | (rw [WJ.out]), by rw [HST2.out]; first | done | rfl | rw [W1_.out], BL.out⟩
        case measure => (try rw [WJ.out]); simp only [intOf, Int.toNat_natCast]; omega
    · have hkn : ¬ (s : Int) < (n : Int) := by omega
      have ht : S.take s = S := List.take_of_length_le (by have := HN.out; omega)
      rw [ht]
      clear ht
      go_wp2_with fail
      go_ret
      exact ⟨rfl, BL.out⟩
set_option maxRecDepth 100000 in
set_option maxHeartbeats 8000000 in
theorem rIn_val (w : World) (R : Nat) (vS vL : Value) (S : List (Plc × ByteArray)) (L : List (ByteArray × Ent)) (sg : Int) (h : RI w R vS vL S L) (hl : L.length ≤ 1000000) (hsz : ∀ p ∈ L, 0 ≤ p.2.sz ∧ p.2.sz ≤ 4000000) :
    Calls Try.prog 29 #[.pointer (some ⟨R, 0, none⟩), .int .i64 sg] w fun e w' => e = .returned (.tuple #[.int .i64 (L.map (inA sg)).sum, .int .i64 (L.map (inB sg)).sum, .int .i64 (L.map (inC sg)).sum]) ∧ Below w.heap.size w w' := by
  have hlr := own_lr (k := 7) (enc := encNw) (fun _ => rfl) h.ls
  obtain ⟨oa, cap, rfl, _, hx⟩ := hlr
  obtain ⟨n, hn⟩ : ∃ n, n = L.length := ⟨_, rfl⟩
  have hrow := h.row
  rw [← hn] at hrow hl
  have c1 : ∀ V, Below w.heap.size w V → V.cell? ⟨R, 1, none⟩ = some (.slice oa n cap) := fun V hV => (cell_of_row _ _ 1 _ _ _ ((hV.block _ (lt_of_rowR hrow)).trans hrow)).trans rfl
  have HX := Lib.hid hx
  have HN := Lib.hid hn
  have C1 := Lib.hid c1
  have HRI := Lib.hid h
  clear hx hn hrow c1 h

  have HSZ := Lib.hid hsz
  clear hsz
  go_enter Try.func29, Try.ntmps29
  go_wp2_with fail
  go_loopw [10, 7, 8, 9] (fun iv av bv cv wr => ∃ s : Nat, s ≤ n ∧ iv = .int .i64 s ∧ av = .int .i64 ((L.take s).map (inA sg)).sum ∧ bv = .int .i64 ((L.take s).map (inB sg)).sum ∧ cv = .int .i64 ((L.take s).map (inC sg)).sum ∧ Below w.heap.size w wr) (fun iv _ _ _ _ => n - (intOf iv).toNat)
  case atStart => exact ⟨0, by omega, rfl, rfl, rfl, rfl, Below.refl _ _⟩
  case round =>
    obtain ⟨s, hs, rfl, rfl, rfl, rfl, hb⟩ := hrel
    have BL := Lib.hid hb
    have c1 := C1.out wr hb
    clear hb
    by_cases hlt : s < n
    · have hkn : (s : Int) < (n : Int) := by omega
      have hsl : s < L.length := by have := HN.out; omega
      obtain ⟨b, off, hoa, hc⟩ := HX.out s hsl
      obtain ⟨x, hxx⟩ : ∃ x, x = L[s] := ⟨_, rfl⟩
      rw [← hxx] at hc
      have hlc := lt_of_cellR (hc 0 _ rfl)
      have xc : ∀ V, Below w.heap.size w V → ∀ j u, (encNw x)[j]? = some u → V.cell? ⟨b, off + s * 7 + j, none⟩ = some u := fun V hV j u hu => (hV.cell (p := ⟨b, off + s * 7 + j, none⟩) hlc).trans (hc j u hu)
      have HXX := Lib.hid hxx
      subst hoa
      clear hc hlc hxx

      have hx4 := HSZ.out _ (List.getElem_mem hsl)
      rw [← HXX.out] at hx4
      have hsa := sum_take (inA sg) hsl
      have hsb := sum_take (inB sg) hsl
      have hsc := sum_take (inC sg) hsl
      have hba := sum_bd (f := inA sg) (B := 1) (by decide) (l := L.take s) (fun p _ => inA_b sg p)
      have hbb := sum_bd (f := inB sg) (B := 1) (by decide) (l := L.take s) (fun p _ => inB_b sg p)
      have hbc := sum_bd (f := inC sg) (B := 4000000) (by decide) (l := L.take s) (fun p hp => inC_b sg p (HSZ.out p (List.mem_of_mem_take hp)))
      have hln : (L.take s).length ≤ 1000000 := by rw [List.length_take]; omega
      rw [← HXX.out] at hsa hsb hsc
      obtain ⟨ta, hta⟩ : ∃ z, z = ((L.take s).map (inA sg)).sum := ⟨_, rfl⟩
      obtain ⟨tb, htb⟩ : ∃ z, z = ((L.take s).map (inB sg)).sum := ⟨_, rfl⟩
      obtain ⟨tc, htc⟩ : ∃ z, z = ((L.take s).map (inC sg)).sum := ⟨_, rfl⟩
      rw [← hta] at hsa hba ⊢
      rw [← htb] at hsb hbb ⊢
      rw [← htc] at hsc hbc ⊢
      have HSA := Lib.hid hsa
      have HSB := Lib.hid hsb
      have HSC := Lib.hid hsc
      have WJ := Lib.hid (wrI s (by omega))
      obtain ⟨xi, ⟨xv, xd, xl, xz, xg, xs⟩⟩ := x
      simp only at hx4
      have W1_ := Lib.hid (show wrap64 (ta + 1) = ta + 1 from IntWalk.wrap64_in _ (by omega))
      have W2_ := Lib.hid (show wrap64 (tb + 1) = tb + 1 from IntWalk.wrap64_in _ (by omega))
      have W3_ := Lib.hid (show wrap64 (tc + xz) = tc + xz from IntWalk.wrap64_in _ (by omega))
      have x5 := xc wr BL.out 5 _ rfl
      have x3 := xc wr BL.out 3 _ rfl
      have x4 := xc wr BL.out 4 _ rfl

      clear xc hsa hsb hsc hba hbb hbc hln hta htb htc hx4
      by_cases hg : xg = sg
      · have g1 : (xg = sg) = True := eq_true hg
        have g3 : (xg == sg) = true := by rw [hg]; exact beq_self_eq_true _
        have EA : Hid (((L.take (s + 1)).map (inA sg)).sum = ta + 1) := Lib.hid (by rw [HSA.out]; congr 1; exact if_pos hg)
        cases xl with
        | true =>
          have EB : Hid (((L.take (s + 1)).map (inB sg)).sum = tb + 1) := Lib.hid (by rw [HSB.out]; congr 1; exact if_pos ⟨hg, rfl⟩)
          have EC : Hid (((L.take (s + 1)).map (inC sg)).sum = tc + xz) := Lib.hid (by rw [HSC.out]; congr 1; exact if_pos ⟨hg, rfl⟩)
          have w1_ := W1_.out
          have w2_ := W2_.out
          have w3_ := W3_.out
          clear hg
          go_wp2_with fail
          go_roundw
          case rel => exact ⟨s + 1, by omega, by first | rfl | (rw [WJ.out]), by rw [EA.out]; first | done | rfl | rw [W1_.out], by rw [EB.out]; first | done | rfl | rw [W2_.out], by rw [EC.out]; first | done | rfl | rw [W3_.out], BL.out⟩
          case measure => (try rw [WJ.out]); simp only [intOf, Int.toNat_natCast]; omega
        | false =>
          have EB : Hid (((L.take (s + 1)).map (inB sg)).sum = tb) := Lib.hid (by rw [HSB.out, show inB sg (xi, (⟨xv, xd, false, xz, xg, xs⟩ : Ent)) = 0 from if_neg (fun h => by cases h.2)]; omega)
          have EC : Hid (((L.take (s + 1)).map (inC sg)).sum = tc) := Lib.hid (by rw [HSC.out, show inC sg (xi, (⟨xv, xd, false, xz, xg, xs⟩ : Ent)) = 0 from if_neg (fun h => by cases h.2)]; omega)
          have w1_ := W1_.out
          clear hg
          go_wp2_with fail
          go_roundw
          case rel => exact ⟨s + 1, by omega, by first | rfl | (rw [WJ.out]), by rw [EA.out]; first | done | rfl | rw [W1_.out], by rw [EB.out]; first | done | rfl | rw [W2_.out], by rw [EC.out]; first | done | rfl | rw [W3_.out], BL.out⟩
          case measure => (try rw [WJ.out]); simp only [intOf, Int.toNat_natCast]; omega
      · have g1 : (xg = sg) = False := eq_false hg
        have g3 : (xg == sg) = false := beq_eq_false_iff_ne.2 hg
        have EA : Hid (((L.take (s + 1)).map (inA sg)).sum = ta) := Lib.hid (by rw [HSA.out, show inA sg (xi, (⟨xv, xd, xl, xz, xg, xs⟩ : Ent)) = 0 from if_neg hg]; omega)
        have EB : Hid (((L.take (s + 1)).map (inB sg)).sum = tb) := Lib.hid (by rw [HSB.out, show inB sg (xi, (⟨xv, xd, xl, xz, xg, xs⟩ : Ent)) = 0 from if_neg (fun h => hg h.1)]; omega)
        have EC : Hid (((L.take (s + 1)).map (inC sg)).sum = tc) := Lib.hid (by rw [HSC.out, show inC sg (xi, (⟨xv, xd, xl, xz, xg, xs⟩ : Ent)) = 0 from if_neg (fun h => hg h.1)]; omega)
        clear hg
        go_wp2_with fail
        go_roundw
        case rel => exact ⟨s + 1, by omega, by first | rfl | (rw [WJ.out]), by rw [EA.out]; first | done | rfl | rw [W1_.out], by rw [EB.out]; first | done | rfl | rw [W2_.out], by rw [EC.out]; first | done | rfl | rw [W3_.out], BL.out⟩
        case measure => (try rw [WJ.out]); simp only [intOf, Int.toNat_natCast]; omega
    · have hkn : ¬ (s : Int) < (n : Int) := by omega
      have ht : L.take s = L := List.take_of_length_le (by have := HN.out; omega)
      rw [ht]
      clear ht
      go_wp2_with fail
      go_ret3
      exact ⟨rfl, BL.out⟩
set_option maxRecDepth 100000 in
set_option maxHeartbeats 8000000 in
theorem rAt_val (w : World) (R : Nat) (vS vL : Value) (S : List (Plc × ByteArray)) (L : List (ByteArray × Ent)) (p1 p2 : Int) (h : RI w R vS vL S L) (hl : S.length ≤ 1000000) :
    Calls Try.prog 28 #[.pointer (some ⟨R, 0, none⟩), .agg #[.int .i64 p1, .int .i64 p2]] w fun e w' => ((e = .returned (.tuple #[.string ⟨#[]⟩, .bool false]) ∧ ∀ j (hj : j < S.length), S[j].1 ≠ (p1, p2)) ∨ ∃ j, ∃ hj : j < S.length, e = .returned (.tuple #[.string S[j].2, .bool true]) ∧ S[j].1 = (p1, p2)) ∧ Below w.heap.size w w' := by
  have hlr := own_lr (k := 3) (enc := encSt) (fun _ => rfl) h.st
  obtain ⟨oa, cap, rfl, _, hx⟩ := hlr
  obtain ⟨n, hn⟩ : ∃ n, n = S.length := ⟨_, rfl⟩
  have hrow := h.row
  rw [← hn] at hrow hl
  have c1 : ∀ V, Below w.heap.size w V → V.cell? ⟨R, 0, none⟩ = some (.slice oa n cap) := fun V hV => (cell_of_row _ _ 0 _ _ _ ((hV.block _ (lt_of_rowR hrow)).trans hrow)).trans rfl
  have HX := Lib.hid hx
  have HN := Lib.hid hn
  have C1 := Lib.hid c1
  have HRI := Lib.hid h
  clear hx hn hrow c1 h

  obtain ⟨w1, hw1⟩ : ∃ W, W = w.alloc (.cells #[.int .i64 p1, .int .i64 p2] (36 : Nat)) := ⟨_, rfl⟩
  have b01 : Below w.heap.size w w1 := by rw [hw1]; exact (Below.refl _ _).alloc (Nat.le_refl _) _
  have row1 : w1.heap[w.heap.size]? = some (.cells #[.int .i64 p1, .int .i64 p2] (36 : Nat) (0, 0)) := by rw [hw1]; exact heap_alloc_new _ _
  have B01 := Lib.hid b01
  have ROW1 := Lib.hid row1
  have HW1 := Lib.hid hw1
  clear b01 row1 hw1
  go_enter Try.func28, Try.ntmps28
  go_wp2_with fail
  rw [← HW1.out]
  clear HW1
  go_loopw [6] (fun iv wr => ∃ s : Nat, s ≤ n ∧ iv = .int .i64 s ∧ (∀ j (hj : j < S.length), j < s → S[j].1 ≠ (p1, p2)) ∧ Below w1.heap.size w1 wr) (fun iv _ => n - (intOf iv).toNat)
  case atStart => exact ⟨0, by omega, rfl, fun j _ hj => absurd hj (by omega), Below.refl _ _⟩
  case round =>
    obtain ⟨s, hs, rfl, hno, hb⟩ := hrel
    have NO := Lib.hid hno
    have BL1 := Lib.hid hb
    have BL := Lib.hid (stepR B01.out hb)
    have c1 := C1.out wr BL.out
    have row := (hb.block _ (lt_of_rowR ROW1.out)).trans ROW1.out
    have k0 := cell_regrown (show wr.cell? ⟨w.heap.size, 0, none⟩ = some (.int .i64 p1) from (cell_of_row _ _ 0 _ _ _ row).trans rfl)
    have k1 := cell_regrown (show wr.cell? ⟨w.heap.size, 1, none⟩ = some (.int .i64 p2) from (cell_of_row _ _ 1 _ _ _ row).trans rfl)
    clear hno hb row
    by_cases hlt : s < n
    · have hkn : (s : Int) < (n : Int) := by omega
      have hsl : s < S.length := by have := HN.out; omega
      obtain ⟨b, off, hoa, hc⟩ := HX.out s hsl
      obtain ⟨x, hxx⟩ : ∃ x, x = S[s] := ⟨_, rfl⟩
      rw [← hxx] at hc
      have hlc := lt_of_cellR (hc 0 _ rfl)
      have xc : ∀ V, Below w.heap.size w V → ∀ j u, (encSt x)[j]? = some u → V.cell? ⟨b, off + s * 3 + j, none⟩ = some u := fun V hV j u hu => (hV.cell (p := ⟨b, off + s * 3 + j, none⟩) hlc).trans (hc j u hu)
      have HXX := Lib.hid hxx
      subst hoa
      clear hc hlc hxx

      have HNE : Hid (x.1 ≠ (p1, p2) → ∀ j (hj : j < S.length), j < s + 1 → S[j].1 ≠ (p1, p2)) := Lib.hid (fun h2 j hj h1 => by
        by_cases e : j = s
        · subst e; rw [← HXX.out]; exact h2
        · exact NO.out j hj (by omega))
      have HAT : Hid (x.1 = (p1, p2) → ∃ j, ∃ hj : j < S.length, Ending.returned (.tuple #[.string x.2, .bool true]) = Ending.returned (.tuple #[.string S[j].2, .bool true]) ∧ S[j].1 = (p1, p2)) := Lib.hid (fun h => ⟨s, hsl, by rw [HXX.out], by rw [← HXX.out]; exact h⟩)
      have WJ := Lib.hid (wrI s (by omega))
      have XC := Lib.hid xc
      obtain ⟨⟨xg, xs⟩, xi⟩ := x
      have x1 := cell_regrown (xc wr BL.out 1 _ rfl)
      have x2 := cell_regrown (xc wr BL.out 2 _ rfl)
      have kc := cell_regrown c1
      clear xc
      by_cases h1 : xg = p1
      · by_cases h2 : xs = p2
        · subst h1 h2
          have HE := Lib.hid (HAT.out rfl)
          clear HAT HNE
          go_wp2_with fail
          refine Loose.wp_region_quiet_fast (by kernel_rfl) (by kernel_rfl) ?_
          (try simp only [List.append_eq, List.cons_append, List.nil_append])
          repeat (go_big_quiet_step (fail))
          refine wpQuiet_nil ?_
          intro _ hw'
          obtain ⟨⟨dq, osq⟩, hw''⟩ := hw'
          subst hw''
          have bQ := below_regrown wr dq osq
          have BLQ := Lib.hid (stepR BL.out bQ)
          have x0 := XC.out _ BLQ.out 0 _ rfl
          rw [Nat.add_zero] at x0
          have c2 := C1.out _ BLQ.out
          clear bQ x1 x2 k0 k1 kc c1
          go_wp2_with fail
          go_ret2
          exact ⟨Or.inr HE.out, BLQ.out⟩
        · have g1 : (xs = p2) = False := eq_false h2
          have g2 : (xs == p2) = false := beq_eq_false_iff_ne.2 h2
          have g3 : decide (xs = p2) = false := decide_eq_false h2
          have HE := Lib.hid (HNE.out (fun e => h2 (Prod.mk.inj e).2))
          subst h1
          clear HAT HNE h2
          go_wp2_with fail
          refine Loose.wp_region_quiet_fast (by kernel_rfl) (by kernel_rfl) ?_
          (try simp only [List.append_eq, List.cons_append, List.nil_append])
          repeat (go_big_quiet_step (fail))
          refine wpQuiet_nil ?_
          intro _ hw'
          obtain ⟨⟨dq, osq⟩, hw''⟩ := hw'
          subst hw''
          have bQ := below_regrown wr dq osq
          have BLQ := Lib.hid (stepR BL1.out bQ)
          clear bQ x1 x2 k0 k1 kc c1
          go_wp2_with fail
          go_roundw
          case rel => exact ⟨s + 1, by omega, by first | rfl | (rw [WJ.out]), HE.out, BLQ.out⟩
          case measure => (try rw [WJ.out]); simp only [intOf, Int.toNat_natCast]; omega
      · have g1 : (xg = p1) = False := eq_false h1
        have g2 : (xg == p1) = false := beq_eq_false_iff_ne.2 h1
        have g3 : decide (xg = p1) = false := decide_eq_false h1
        have HE := Lib.hid (HNE.out (fun e => h1 (Prod.mk.inj e).1))
        clear HAT HNE h1
        go_wp2_with fail
        refine Loose.wp_region_quiet_fast (by kernel_rfl) (by kernel_rfl) ?_
        (try simp only [List.append_eq, List.cons_append, List.nil_append])
        repeat (go_big_quiet_step (fail))
        refine wpQuiet_nil ?_
        intro _ hw'
        obtain ⟨⟨dq, osq⟩, hw''⟩ := hw'
        subst hw''
        have bQ := below_regrown wr dq osq
        have BLQ := Lib.hid (stepR BL1.out bQ)
        clear bQ x1 x2 k0 k1 kc c1
        go_wp2_with fail
        go_roundw
        case rel => exact ⟨s + 1, by omega, by first | rfl | (rw [WJ.out]), HE.out, BLQ.out⟩
        case measure => (try rw [WJ.out]); simp only [intOf, Int.toNat_natCast]; omega
    · have hkn : ¬ (s : Int) < (n : Int) := by omega
      have HE := Lib.hid (show ∀ j (hj : j < S.length), S[j].1 ≠ (p1, p2) from fun j hj => NO.out j hj (by have := HN.out; omega))
      clear k0 k1
      go_wp2_with fail
      go_ret2
      exact ⟨Or.inl ⟨rfl, HE.out⟩, BL.out⟩
end Go.Proofs.Ythpompgcnemanaa.G
