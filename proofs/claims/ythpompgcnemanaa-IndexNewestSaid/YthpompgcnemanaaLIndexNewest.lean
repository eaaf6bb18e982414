/- IndexNewest: whatever is handed in, the law answers true. No condition. -/
import Derived.Test.YthpompgcnemanaaIo
import Derived.Test.YthpompgcnemanaaGFast
import Derived.BigQuiet
import Derived.Test.YthpompgcnemanaaIq
namespace Go.Proofs.Ythpompgcnemanaa.L
open Go.RowKit Go.Maps Go.Proofs.Ythpompgcnemanaa.G Go.Proofs.Ythpompgcnemanaa.WordPlain Go.Proofs.Ythpompgcnemanaa.Loose
set_option linter.unusedVariables false
set_option linter.unusedSimpArgs false

/-- how many of an id, of the first so many -/
def manyL (L : List Rec) (i : ByteArray) : Nat → Nat
  | 0 => 0
  | k + 1 => manyL L i k + (match L[k]? with | some r => if r.ok ∧ r.id = i then 1 else 0 | none => 0)
theorem manyL_step {L : List Rec} {i : ByteArray} {k : Nat} (h : k < L.length) : manyL L i (k + 1) = manyL L i k + if L[k].ok ∧ L[k].id = i then 1 else 0 := by
  show manyL L i k + (match L[k]? with | some r => if r.ok ∧ r.id = i then 1 else 0 | none => 0) = _
  rw [List.getElem?_eq_getElem h]
theorem manyL_le (L : List Rec) (i : ByteArray) : ∀ k, manyL L i k ≤ k
  | 0 => Nat.le_refl _
  | k + 1 => by
    have := manyL_le L i k
    unfold manyL
    split
    · split <;> omega
    · omega
theorem filQ_step {L : List Rec} {q : Nat} (h : q < L.length) : filQ L (q + 1) = filQ L q ++ (if L[q].ok then [(plc q, L[q].id)] else []) := by
  unfold filQ
  rw [List.range_succ, List.filterMap_append]
  congr 1
  rw [List.filterMap_cons, List.getElem?_eq_getElem h]
  by_cases ho : L[q].ok <;> simp [ho]
theorem many_sum {L : List Rec} (i : ByteArray) : ∀ q, q ≤ L.length → ((filQ L q).map (othG i (-1))).sum = (manyL L i q : Int)
  | 0, _ => rfl
  | q + 1, h => by
    have hq : q < L.length := by omega
    rw [filQ_step hq, List.map_append, List.sum_append, many_sum i q (by omega), manyL_step hq]
    by_cases ho : L[q].ok
    · rw [if_pos ho]
      simp only [List.map_cons, List.map_nil, List.sum_cons, List.sum_nil]
      unfold othG
      have hp : (plc q).1 ≠ -1 := by show ((q / 4 : Nat) : Int) ≠ -1; omega
      by_cases hi : L[q].id = i
      · rw [if_pos ⟨hp, hi⟩, if_pos ⟨ho, hi⟩]; omega
      · rw [if_neg (fun h => hi h.2), if_neg (fun h => hi h.2)]; omega
    · rw [if_neg ho, if_neg (fun h => ho h.1)]; simp
/-- what the law has found of the first so many -/
def BestS (L : List Rec) (i : ByteArray) (k : Nat) (b : Int) : Prop := (b = -1 ∧ ∀ j (hj : j < L.length), j < k → L[j].ok → L[j].id ≠ i) ∨ ∃ j : Nat, b = j ∧ BestOf L k i j
theorem BestS.zero (L : List Rec) (i : ByteArray) : BestS L i 0 (-1) := Or.inl ⟨rfl, fun j _ h => absurd h (Nat.not_lt_zero _)⟩
theorem BestS.skip {L : List Rec} {i : ByteArray} {k : Nat} {b : Int} (h : BestS L i k b) (hk : k < L.length) (hn : ¬ (L[k].ok ∧ L[k].id = i)) : BestS L i (k + 1) b := by
  rcases h with ⟨h1, h2⟩ | ⟨j, h1, h2, h3, h4, h5, h6⟩
  · refine Or.inl ⟨h1, fun j hj hlt ho he => ?_⟩
    rcases (by omega : j < k ∨ j = k) with h | h
    · exact h2 j hj h ho he
    · subst h; exact hn ⟨ho, he⟩
  · refine Or.inr ⟨j, h1, by omega, h3, h4, h5, fun m hm hlt ho he => ?_⟩
    rcases (by omega : m < k ∨ m = k) with h | h
    · exact h6 m hm h ho he
    · subst h; exact absurd ⟨ho, he⟩ hn
theorem BestS.first {L : List Rec} {i : ByteArray} {k : Nat} (h : BestS L i k (-1)) (hk : k < L.length) (ho : L[k].ok) (he : L[k].id = i) : BestS L i (k + 1) (k : Int) := by
  rcases h with ⟨_, h2⟩ | ⟨j, h1, _⟩
  · refine Or.inr ⟨k, rfl, by omega, hk, ho, he, fun j hj hlt ho' he' => ?_⟩
    rcases (by omega : j < k ∨ j = k) with h | h
    · exact absurd he' (h2 j hj h ho')
    · subst h; omega
  · omega
theorem BestOf.next {L : List Rec} {i : ByteArray} {k j : Nat} (h : BestOf L k i j) (hk : k < L.length) (ho : L[k].ok) (he : L[k].id = i) (hv : ∀ h : j < L.length, L[j].ver ≤ L[k].ver) : BestOf L (k + 1) i k := by
  obtain ⟨h2, h3, h4, h5, h6⟩ := h
  have := hv h3
  refine ⟨by omega, hk, ho, he, fun m hm hlt ho' he' => ?_⟩
  rcases (by omega : m < k ∨ m = k) with h | h
  · have := h6 m hm h ho' he'; omega
  · subst h; omega
theorem BestOf.stay {L : List Rec} {i : ByteArray} {k j : Nat} (h : BestOf L k i j) (hk : k < L.length) (hv : ∀ h : j < L.length, L[k].ver < L[j].ver) : BestOf L (k + 1) i j := by
  obtain ⟨h2, h3, h4, h5, h6⟩ := h
  have := hv h3
  refine ⟨by omega, h3, h4, h5, fun m hm hlt ho' he' => ?_⟩
  rcases (by omega : m < k ∨ m = k) with h | h
  · exact h6 m hm h ho' he'
  · subst h; omega
set_option maxRecDepth 100000 in
set_option maxHeartbeats 16000000 in
theorem newest_main (l : List Rec) (v : Value) (w : World) (h : LR 7 encR w v l) (hl : l.length ≤ 140737488351232) :
    Calls Try.prog 5 #[v] w fun e w' => e = .returned (.bool true) ∧ Below w.heap.size w w' := by
  obtain ⟨oa, cap, rfl, _, hx⟩ := h
  obtain ⟨n, hn⟩ : ∃ n, n = l.length := ⟨_, rfl⟩
  have fv := filled_val w (.slice oa n cap) l ⟨oa, cap, by rw [hn], by assumption, hx⟩ hl
  rw [← hn] at hl ⊢
  obtain ⟨L, hL⟩ : ∃ L, L = cutsR l 40 := ⟨_, rfl⟩
  rw [← hL] at fv
  have HLL : Hid (L.length = min 40 n) := Lib.hid (by rw [hL, hn]; unfold cutsR; rw [List.length_take, List.length_map])
  have HLA := Lib.hid (show ∀ k (h1 : k < l.length) (h2 : k < L.length), L[k] = l[k].cut from fun k h1 h2 => by subst hL; exact (cutsR_at h2).2.2 h1)
  have HLS := Lib.hid (show ∀ r ∈ L, r.id.size ≤ 80 ∧ r.va.size ≤ 80 by rw [hL]; exact cutsR_size l 40)
  have AT := Lib.hid hx
  have HN := Lib.hid hn
  have FV := Lib.hid fv
  clear hx hn hL fv
  go_enter Try.func5, Try.ntmps5
  go_wp2_with fail
  refine FV.out.mono ?_; rintro e w1 ⟨⟨X, bn, bp, rfl, hix, hX, hbn, hbp⟩, hb⟩
  have IX1 := Lib.hid hix
  have BB1 := Lib.hid hb
  have NEW := Lib.hid (fil_n (L := L) L.length (Nat.le_refl _))
  have QEN := Lib.hid (filQ_en (L := L) (Nat.le_refl _))
  clear hix hX hbn hbp hb FV
  go_wp2_with fail
  go_loopw [4] (fun i wr => ∃ q : Nat, q ≤ L.length ∧ i = .int .i64 q ∧ Below w1.heap.size w1 wr) (fun i _ => 40 - (intOf i).toNat)
  case atStart => exact ⟨0, by omega, rfl, Below.refl _ _⟩
  case round =>
    obtain ⟨q, hq, rfl, hbl⟩ := hrel
    have HB := Lib.hid hbl
    have hq40 : q ≤ 40 := by have := HLL.out; omega
    clear hbl
    by_cases hlt : q < n ∧ q < 40
    rotate_left
    · have HE := Lib.hid (stepR BB1.out HB.out)
      have fin : Calls Try.prog 11 #[] wr fun e w' => e = .returned (.bool true) ∧ Below wr.heap.size wr w' := fixed_val wr
      by_cases h1 : q < n
      · have hkn : (q : Int) < (n : Int) := by omega
        have h40 : ¬ (q : Int) < 40 := by omega
        clear hlt h1
        go_wp2_with fail
        refine fin.mono ?_; rintro e wz ⟨rfl, hb⟩
        go_wp2_with fail
        go_ret
        exact ⟨rfl, stepR HE.out hb⟩
      · have hkn : ¬ (q : Int) < (n : Int) := by omega
        clear hlt h1
        go_wp2_with fail
        refine fin.mono ?_; rintro e wz ⟨rfl, hb⟩
        go_wp2_with fail
        go_ret
        exact ⟨rfl, stepR HE.out hb⟩
    · obtain ⟨hqn, h40⟩ := hlt
      have hkn : (q : Int) < (n : Int) := by omega
      have hk40 : (q : Int) < 40 := by omega
      have hql : q < l.length := by have := HN.out; omega
      have hqL : q < L.length := by have := HLL.out; omega
      obtain ⟨b, off, hoa, hc⟩ := AT.out q hql
      have sh := fun j u hu => (BB1.out.cell (p := ⟨b, off + q * 7 + j, none⟩) (lt_of_cellR (hc j u hu))).trans (hc j u hu)
      have hcut := HLA.out q hql hqL
      have hsz := HLS.out _ (List.getElem_mem hqL)
      obtain ⟨r, hr⟩ : ∃ r, r = l[q] := ⟨_, rfl⟩
      rw [← hr] at sh hcut
      obtain ⟨rc, hrc⟩ : ∃ r, r = L[q] := ⟨_, rfl⟩
      rw [← hrc] at hcut hsz
      have s0 : wr.cell? ⟨b, off + q * 7, none⟩ = some (.int .u64 (r.lsn : Int)) := (HB.out.cell (p := ⟨b, off + q * 7, none⟩) (lt_of_cellR (sh 0 _ rfl))).trans (sh 0 _ rfl)
      have s1 : wr.cell? ⟨b, off + q * 7 + 1, none⟩ = some (.int .u32 (r.ep : Int)) := (HB.out.cell (p := ⟨b, off + q * 7 + 1, none⟩) (lt_of_cellR (sh 1 _ rfl))).trans (sh 1 _ rfl)
      have s2 : wr.cell? ⟨b, off + q * 7 + 2, none⟩ = some (.int .i64 r.kind) := (HB.out.cell (p := ⟨b, off + q * 7 + 2, none⟩) (lt_of_cellR (sh 2 _ rfl))).trans (sh 2 _ rfl)
      have s3 : wr.cell? ⟨b, off + q * 7 + 3, none⟩ = some (.int .u64 (r.ver : Int)) := (HB.out.cell (p := ⟨b, off + q * 7 + 3, none⟩) (lt_of_cellR (sh 3 _ rfl))).trans (sh 3 _ rfl)
      have s4 : wr.cell? ⟨b, off + q * 7 + 4, none⟩ = some (.int .u64 (r.dl : Int)) := (HB.out.cell (p := ⟨b, off + q * 7 + 4, none⟩) (lt_of_cellR (sh 4 _ rfl))).trans (sh 4 _ rfl)
      have s5 : wr.cell? ⟨b, off + q * 7 + 5, none⟩ = some (.string r.id) := (HB.out.cell (p := ⟨b, off + q * 7 + 5, none⟩) (lt_of_cellR (sh 5 _ rfl))).trans (sh 5 _ rfl)
      have s6 : wr.cell? ⟨b, off + q * 7 + 6, none⟩ = some (.string r.va) := (HB.out.cell (p := ⟨b, off + q * 7 + 6, none⟩) (lt_of_cellR (sh 6 _ rfl))).trans (sh 6 _ rfl)
      have RF := Lib.hid (CutR_val r wr)
      rw [← hcut] at RF
      have HSZ := Lib.hid hsz
      have HRC := Lib.hid hrc
      have WQ := Lib.hid (wrI q (by omega))
      subst hoa
      clear hc hr hrc hcut hsz sh
      go_wp2_with fail
      refine RF.out.mono ?_; rintro e w2 ⟨rfl, hb⟩
      obtain ⟨w3, hw3⟩ : ∃ W, W = w2.alloc (.cells #[.int .u64 (rc.lsn : Int), .int .u32 (rc.ep : Int), .int .i64 rc.kind, .int .u64 (rc.ver : Int), .int .u64 (rc.dl : Int), .string rc.id, .string rc.va] (34 : Nat)) := ⟨_, rfl⟩
      have HB2 := Lib.hid (stepR HB.out hb)
      have b23 : Below w2.heap.size w2 w3 := by rw [hw3]; exact (Below.refl _ _).alloc (Nat.le_refl _) _
      have HB3 := Lib.hid (stepR HB2.out b23)
      have RROW : Hid (w3.heap[w2.heap.size]? = some (.cells #[.int .u64 (rc.lsn : Int), .int .u32 (rc.ep : Int), .int .i64 rc.kind, .int .u64 (rc.ver : Int), .int .u64 (rc.dl : Int), .string rc.id, .string rc.va] (34 : Nat) (0, 0))) := Lib.hid (by rw [hw3]; exact heap_alloc_new _ _)
      have HW3 := Lib.hid hw3
      clear hb b23 hw3 RF s0 s1 s2 s3 s4 s5 s6
      go_wp2_with fail
      rw [← HW3.out]
      go_loopw [6, 7, 8] (fun bv mv kv wi => ∃ (k : Nat) (bz : Int), k ≤ L.length ∧ bv = .int .i64 bz ∧ mv = .int .i64 (manyL L rc.id k : Int) ∧ kv = .int .i64 k ∧ BestS L rc.id k bz ∧ Below w3.heap.size w3 wi) (fun _ _ kv _ => 40 - (intOf kv).toNat)
      case atStart => exact ⟨0, -1, by omega, rfl, rfl, rfl, BestS.zero _ _, Below.refl _ _⟩
      case round =>
        obtain ⟨k, bz, hk, rfl, rfl, rfl, hbs, hbi⟩ := hrel
        have BS := Lib.hid hbs
        have HBI := Lib.hid hbi
        have hk40' : k ≤ 40 := by have := HLL.out; omega
        clear hbs hbi
        by_cases hlt : k < n ∧ k < 40
        · obtain ⟨hkn', h40'⟩ := hlt
          have hkn2 : (k : Int) < (n : Int) := by omega
          have hk402 : (k : Int) < 40 := by omega
          have hkl : k < l.length := by have := HN.out; omega
          have hkL : k < L.length := by have := HLL.out; omega
          obtain ⟨b2, o2, e, hc⟩ := AT.out k hkl
          injection e with e
          injection e with e1 e2
          subst e1 e2
          have yh := fun j u hu => ((stepR BB1.out HB3.out).cell (p := ⟨b, off + k * 7 + j, none⟩) (lt_of_cellR (hc j u hu))).trans (hc j u hu)
          have hcut := HLA.out k hkl hkL
          obtain ⟨y, hy⟩ : ∃ r, r = l[k] := ⟨_, rfl⟩
          rw [← hy] at yh hcut
          obtain ⟨yc, hyc⟩ : ∃ r, r = L[k] := ⟨_, rfl⟩
          rw [← hyc] at hcut
          have y0 : wr.cell? ⟨b, off + k * 7, none⟩ = some (.int .u64 (y.lsn : Int)) := (HBI.out.cell (p := ⟨b, off + k * 7, none⟩) (lt_of_cellR (yh 0 _ rfl))).trans (yh 0 _ rfl)
          have y1 : wr.cell? ⟨b, off + k * 7 + 1, none⟩ = some (.int .u32 (y.ep : Int)) := (HBI.out.cell (p := ⟨b, off + k * 7 + 1, none⟩) (lt_of_cellR (yh 1 _ rfl))).trans (yh 1 _ rfl)
          have y2 : wr.cell? ⟨b, off + k * 7 + 2, none⟩ = some (.int .i64 y.kind) := (HBI.out.cell (p := ⟨b, off + k * 7 + 2, none⟩) (lt_of_cellR (yh 2 _ rfl))).trans (yh 2 _ rfl)
          have y3 : wr.cell? ⟨b, off + k * 7 + 3, none⟩ = some (.int .u64 (y.ver : Int)) := (HBI.out.cell (p := ⟨b, off + k * 7 + 3, none⟩) (lt_of_cellR (yh 3 _ rfl))).trans (yh 3 _ rfl)
          have y4 : wr.cell? ⟨b, off + k * 7 + 4, none⟩ = some (.int .u64 (y.dl : Int)) := (HBI.out.cell (p := ⟨b, off + k * 7 + 4, none⟩) (lt_of_cellR (yh 4 _ rfl))).trans (yh 4 _ rfl)
          have y5 : wr.cell? ⟨b, off + k * 7 + 5, none⟩ = some (.string y.id) := (HBI.out.cell (p := ⟨b, off + k * 7 + 5, none⟩) (lt_of_cellR (yh 5 _ rfl))).trans (yh 5 _ rfl)
          have y6 : wr.cell? ⟨b, off + k * 7 + 6, none⟩ = some (.string y.va) := (HBI.out.cell (p := ⟨b, off + k * 7 + 6, none⟩) (lt_of_cellR (yh 6 _ rfl))).trans (yh 6 _ rfl)
          have RF2 := Lib.hid (CutR_val y wr)
          rw [← hcut] at RF2
          have HYC := Lib.hid hyc
          have WK := Lib.hid (wrI k (by omega))
          clear hc hy hyc hcut yh
          go_wp2_with fail
          refine RF2.out.mono ?_; rintro e w4 ⟨rfl, hb⟩
          obtain ⟨w5, hw5⟩ : ∃ W, W = (w4.alloc (.cells #[.int .u64 (yc.lsn : Int), .int .u32 (yc.ep : Int), .int .i64 yc.kind, .int .u64 (yc.ver : Int), .int .u64 (yc.dl : Int), .string yc.id, .string yc.va] (34 : Nat))) := ⟨_, rfl⟩
          have HB4 := Lib.hid (stepR HBI.out hb)
          have b45 : Below w4.heap.size w4 w5 := by rw [hw5]; exact (Below.refl _ _).alloc (Nat.le_refl _) _
          have HB5 := Lib.hid (stepR HB4.out b45)
          have YROW : Hid (w5.heap[w4.heap.size]? = some (.cells #[.int .u64 (yc.lsn : Int), .int .u32 (yc.ep : Int), .int .i64 yc.kind, .int .u64 (yc.ver : Int), .int .u64 (yc.dl : Int), .string yc.id, .string yc.va] (34 : Nat) (0, 0))) := Lib.hid (by rw [hw5]; exact heap_alloc_new _ _)
          have rid : (w4.alloc (.cells #[.int .u64 (yc.lsn : Int), .int .u32 (yc.ep : Int), .int .i64 yc.kind, .int .u64 (yc.ver : Int), .int .u64 (yc.dl : Int), .string yc.id, .string yc.va] (34 : Nat))).cell? ⟨w2.heap.size, 5, none⟩ = some (.string rc.id) := by
            rw [← hw5]
            exact (cell_of_row _ _ 5 _ _ _ ((HB5.out.block _ (lt_of_rowR RROW.out)).trans RROW.out)).trans rfl
          have HW5 := Lib.hid hw5
          clear hb b45 hw5 RF2 y0 y1 y2 y3 y4 y5 y6
          by_cases hko : yc.ok
          rotate_left
          · have HM0 : Hid (manyL L rc.id (k + 1) = manyL L rc.id k) := Lib.hid (by rw [manyL_step hkL, if_neg (fun h => hko (by rw [HYC.out]; exact h.1)), Nat.add_zero])
            have BS2 := Lib.hid (BS.out.skip hkL (fun h => hko (by rw [HYC.out]; exact h.1)))
            have g1 : (yc.kind != 1) = true := bne_iff_ne.2 (fun e => hko (Or.inl e))
            have g2 : (yc.kind != 2) = true := bne_iff_ne.2 (fun e => hko (Or.inr e))
            have g3 : (yc.kind = 1) = False := eq_false (fun e => hko (Or.inl e))
            have g4 : (yc.kind = 2) = False := eq_false (fun e => hko (Or.inr e))
            have HB5' : Hid (Below w3.heap.size w3 (w4.alloc (.cells #[.int .u64 (yc.lsn : Int), .int .u32 (yc.ep : Int), .int .i64 yc.kind, .int .u64 (yc.ver : Int), .int .u64 (yc.dl : Int), .string yc.id, .string yc.va] (34 : Nat)))) := Lib.hid (by rw [← HW5.out]; exact HB5.out)
            clear hko BS
            go_wp2_with fail
            go_roundw
            case rel => exact ⟨k + 1, bz, by omega, rfl, by rw [HM0.out], by first | rfl | (rw [WK.out]), BS2.out, HB5'.out⟩
            case measure => (try rw [WK.out]); simp only [intOf, Int.toNat_natCast]; omega
          · rcases hko with hkd | hkd
            · have hko : yc.ok := Or.inl hkd
              by_cases hid : yc.id = rc.id
              rotate_left
              · have HM0 : Hid (manyL L rc.id (k + 1) = manyL L rc.id k) := Lib.hid (by rw [manyL_step hkL, if_neg (fun h => hid (by rw [HYC.out]; exact h.2)), Nat.add_zero])
                have BS2 := Lib.hid (BS.out.skip hkL (fun h => hid (by rw [HYC.out]; exact h.2)))
                have q0 := str_ne hid
                have q1 : (yc.id.toList == rc.id.toList) = false := beq_eq_false_iff_ne.2 (fun h => by rw [h] at q0; simp at q0)
                have q2 : (yc.id = rc.id) = False := eq_false hid
                have q3 : (yc.id.toList != rc.id.toList) = true := by simp only [bne, q1, Bool.not_false]
                have HB5' : Hid (Below w3.heap.size w3 (w4.alloc (.cells #[.int .u64 (yc.lsn : Int), .int .u32 (yc.ep : Int), .int .i64 yc.kind, .int .u64 (yc.ver : Int), .int .u64 (yc.dl : Int), .string yc.id, .string yc.va] (34 : Nat)))) := Lib.hid (by rw [← HW5.out]; exact HB5.out)
                rw [hkd] at rid HB5' ⊢
                clear hid BS hkd hko
                go_wp2_with fail
                go_roundw
                case rel => exact ⟨k + 1, bz, by omega, rfl, by rw [HM0.out], by first | rfl | (rw [WK.out]), BS2.out, HB5'.out⟩
                case measure => (try rw [WK.out]); simp only [intOf, Int.toNat_natCast]; omega
              · have hw5' := HW5.out
                rw [hid, hkd] at hw5' rid
                have HW5' := Lib.hid hw5'
                clear hw5'
                have HM1 : Hid (manyL L rc.id (k + 1) = manyL L rc.id k + 1) := Lib.hid (by rw [manyL_step hkL, if_pos (by rw [← HYC.out]; exact ⟨hko, hid⟩)])
                have hkL' : L[k].ok ∧ L[k].id = rc.id := by rw [← HYC.out]; exact ⟨hko, hid⟩
                have hm40 := manyL_le L rc.id k
                obtain ⟨mk, hmk⟩ : ∃ m, m = manyL L rc.id k := ⟨_, rfl⟩
                rw [← hmk] at hm40 ⊢
                have HMK := Lib.hid hmk
                have WM := Lib.hid (wrI mk (by omega))
                have wm := WM.out
                rw [hid] at YROW
                have q0 : (rc.id.toList == rc.id.toList) = true := beq_self_eq_true _
                have q1 : (rc.id.toList != rc.id.toList) = false := by simp
                rw [hid]
                clear hmk
                rcases BS.out with ⟨hb1, hno⟩ | ⟨jj, hb1, hbest⟩
                · subst hb1
                  have BS3 := Lib.hid (BestS.first BS.out hkL hkL'.1 hkL'.2)
                  clear hno hid hko hkL' BS
                  rw [hkd] at YROW ⊢
                  clear hkd
                  go_wp2_with fail
                  clear rid q0 q1
                  rw [← HW5'.out]
                  have wm2 := WM.out
                  clear wm
                  refine Loose.wp_region_quiet_fast (by kernel_rfl) (by kernel_rfl) ?_
                  (try simp only [List.append_eq, List.cons_append, List.nil_append])
                  repeat (go_big_quiet_step (fail))
                  refine wpQuiet_nil ?_
                  intro _ hw'
                  obtain ⟨⟨dq, osq⟩, hw''⟩ := hw'
                  subst hw''
                  have bQ := below_regrown w5 dq osq
                  have HBQ := Lib.hid (stepR HB5.out bQ)
                  clear bQ
                  go_wp2_with fail
                  go_roundw
                  case rel => exact ⟨k + 1, (k : Int), by omega, rfl, by first | (rw [HM1.out, ← HMK.out]; rfl) | (rw [HM1.out, ← HMK.out, WM.out]; rfl) | (rw [HM1.out, ← HMK.out]; exact congrArg _ WM.out), by first | rfl | (rw [WK.out]), BS3.out, HBQ.out⟩
                  case measure => (try rw [WK.out]); simp only [intOf, Int.toNat_natCast]; omega
                · subst hb1
                  obtain ⟨hjk, hjL, hjrest⟩ := hbest
                  have hbest : BestOf L k rc.id jj := ⟨hjk, hjL, hjrest⟩
                  have hjl : jj < l.length := by have := HLL.out; have := HN.out; omega
                  have hjn : (jj : Int) < (n : Int) := by omega
                  have hjn' : jj < n := by omega
                  have hj0 : ¬ ((jj : Int) < 0) := by omega
                  have hj1 : ((jj : Int) < 0) = False := eq_false hj0
                  have hj2 : decide ((jj : Int) < 0) = false := decide_eq_false hj0
                  have hj3 : ((jj : Int) ≥ 0) = True := eq_true (by omega)
                  obtain ⟨b3, o3, e, hcz⟩ := AT.out jj hjl
                  injection e with e
                  injection e with e1 e2
                  subst e1 e2
                  have zh := fun j u hu => ((stepR BB1.out HB3.out).cell (p := ⟨b, off + jj * 7 + j, none⟩) (lt_of_cellR (hcz j u hu))).trans (hcz j u hu)
                  have hcut2 := HLA.out jj hjl hjL
                  obtain ⟨z, hz⟩ : ∃ r, r = l[jj] := ⟨_, rfl⟩
                  rw [← hz] at zh hcut2
                  obtain ⟨zc, hzc⟩ : ∃ r, r = L[jj] := ⟨_, rfl⟩
                  rw [← hzc] at hcut2
                  have cz : ∀ W, Calls Try.prog 19 #[.agg #[.int .u64 (z.lsn : Int), .int .u32 (z.ep : Int), .int .i64 z.kind, .int .u64 (z.ver : Int), .int .u64 (z.dl : Int), .string z.id, .string z.va]] W fun e w' => e = .returned (.agg #[.int .u64 (zc.lsn : Int), .int .u32 (zc.ep : Int), .int .i64 zc.kind, .int .u64 (zc.ver : Int), .int .u64 (zc.dl : Int), .string zc.id, .string zc.va]) ∧ Below W.heap.size W w' := fun W => by
                    have h := CutR_val z W
                    rw [← hcut2] at h
                    exact h
                  have fldz : ∀ W : World, (Instr.field 34 (.agg #[.int .u64 (zc.lsn : Int), .int .u32 (zc.ep : Int), .int .i64 zc.kind, .int .u64 (zc.ver : Int), .int .u64 (zc.dl : Int), .string zc.id, .string zc.va]) 3).run Try.prog W = .ok (.int .u64 (zc.ver : Int)) W := fun _ => by kernel_rfl
                  have z0 := cell_regrown (show w5.cell? ⟨b, off + jj * 7, none⟩ = some (.int .u64 (z.lsn : Int)) from (HB5.out.cell (p := ⟨b, off + jj * 7, none⟩) (lt_of_cellR (zh 0 _ rfl))).trans (zh 0 _ rfl))
                  have z1 := cell_regrown (show w5.cell? ⟨b, off + jj * 7 + 1, none⟩ = some (.int .u32 (z.ep : Int)) from (HB5.out.cell (p := ⟨b, off + jj * 7 + 1, none⟩) (lt_of_cellR (zh 1 _ rfl))).trans (zh 1 _ rfl))
                  have z2 := cell_regrown (show w5.cell? ⟨b, off + jj * 7 + 2, none⟩ = some (.int .i64 z.kind) from (HB5.out.cell (p := ⟨b, off + jj * 7 + 2, none⟩) (lt_of_cellR (zh 2 _ rfl))).trans (zh 2 _ rfl))
                  have z3 := cell_regrown (show w5.cell? ⟨b, off + jj * 7 + 3, none⟩ = some (.int .u64 (z.ver : Int)) from (HB5.out.cell (p := ⟨b, off + jj * 7 + 3, none⟩) (lt_of_cellR (zh 3 _ rfl))).trans (zh 3 _ rfl))
                  have z4 := cell_regrown (show w5.cell? ⟨b, off + jj * 7 + 4, none⟩ = some (.int .u64 (z.dl : Int)) from (HB5.out.cell (p := ⟨b, off + jj * 7 + 4, none⟩) (lt_of_cellR (zh 4 _ rfl))).trans (zh 4 _ rfl))
                  have z5 := cell_regrown (show w5.cell? ⟨b, off + jj * 7 + 5, none⟩ = some (.string z.id) from (HB5.out.cell (p := ⟨b, off + jj * 7 + 5, none⟩) (lt_of_cellR (zh 5 _ rfl))).trans (zh 5 _ rfl))
                  have z6 := cell_regrown (show w5.cell? ⟨b, off + jj * 7 + 6, none⟩ = some (.string z.va) from (HB5.out.cell (p := ⟨b, off + jj * 7 + 6, none⟩) (lt_of_cellR (zh 6 _ rfl))).trans (zh 6 _ rfl))
                  have yv := cell_regrown (show w5.cell? ⟨w4.heap.size, 3, none⟩ = some (.int .u64 (yc.ver : Int)) from (cell_of_row _ _ 3 _ _ _ YROW.out).trans rfl)
                  have HZC := Lib.hid hzc
                  clear hz hzc hcut2 zh hcz hjrest hid hko
                  by_cases hv : zc.ver ≤ yc.ver
                  · have BS3 : Hid (BestS L rc.id (k + 1) (k : Int)) := Lib.hid (Or.inr ⟨k, rfl, BestOf.next (L := L) hbest hkL hkL'.1 hkL'.2 (fun h => by rw [← HZC.out, ← HYC.out]; exact hv)⟩)
                    have v1 : (zc.ver ≤ yc.ver) = True := eq_true hv
                    have v2 : ((yc.ver : Int) ≥ (zc.ver : Int)) = True := eq_true (by omega)
                    clear hbest hkL' BS hv
                    rw [hkd] at YROW ⊢
                    clear hkd
                    go_wp2_with fail
                    clear rid q0 q1
                    rw [← HW5'.out]
                    refine Loose.wp_region_quiet_fast (by kernel_rfl) (by kernel_rfl) ?_
                    (try simp only [List.append_eq, List.cons_append, List.nil_append])
                    repeat (go_big_quiet_step (fail))
                    go_big_quiet_step ((go_at_call 19; exact Calls.regrown_of (cz _)))
                    repeat (go_big_quiet_step (fail))
                    refine wpQuiet_nil ?_
                    intro _ hw'
                    obtain ⟨⟨dq, osq⟩, hw''⟩ := hw'
                    subst hw''
                    clear z0 z1 z2 z3 z4 z5 z6 yv v1 v2
                    have bQ := below_regrown w5 dq osq
                    have HBQ := Lib.hid (stepR HB5.out bQ)
                    clear bQ
                    go_wp2_with fail
                    go_roundw
                    case rel => exact ⟨k + 1, (k : Int), by omega, rfl, by first | (rw [HM1.out, ← HMK.out]; rfl) | (rw [HM1.out, ← HMK.out, WM.out]; rfl) | (rw [HM1.out, ← HMK.out]; exact congrArg _ WM.out), by first | rfl | (rw [WK.out]), BS3.out, HBQ.out⟩
                    case measure => (try rw [WK.out]); simp only [intOf, Int.toNat_natCast]; omega
                  · have BS3 : Hid (BestS L rc.id (k + 1) (jj : Int)) := Lib.hid (Or.inr ⟨jj, rfl, BestOf.stay (L := L) (k := k) (j := jj) hbest hkL (fun h => by rw [← HZC.out, ← HYC.out]; omega)⟩)
                    have v1 : (zc.ver ≤ yc.ver) = False := eq_false hv
                    have v2 : ((yc.ver : Int) ≥ (zc.ver : Int)) = False := eq_false (by omega)
                    clear hbest hkL' BS hv
                    rw [hkd] at YROW ⊢
                    clear hkd
                    go_wp2_with fail
                    clear rid q0 q1
                    rw [← HW5'.out]
                    refine Loose.wp_region_quiet_fast (by kernel_rfl) (by kernel_rfl) ?_
                    (try simp only [List.append_eq, List.cons_append, List.nil_append])
                    repeat (go_big_quiet_step (fail))
                    go_big_quiet_step ((go_at_call 19; exact Calls.regrown_of (cz _)))
                    repeat (go_big_quiet_step (fail))
                    refine wpQuiet_nil ?_
                    intro _ hw'
                    obtain ⟨⟨dq, osq⟩, hw''⟩ := hw'
                    subst hw''
                    clear z0 z1 z2 z3 z4 z5 z6 yv v1 v2
                    have bQ := below_regrown w5 dq osq
                    have HBQ := Lib.hid (stepR HB5.out bQ)
                    clear bQ
                    go_wp2_with fail
                    go_roundw
                    case rel => exact ⟨k + 1, (jj : Int), by omega, rfl, by first | (rw [HM1.out, ← HMK.out]; rfl) | (rw [HM1.out, ← HMK.out, WM.out]; rfl) | (rw [HM1.out, ← HMK.out]; exact congrArg _ WM.out), by first | rfl | (rw [WK.out]), BS3.out, HBQ.out⟩
                    case measure => (try rw [WK.out]); simp only [intOf, Int.toNat_natCast]; omega
            · have hko : yc.ok := Or.inr hkd
              by_cases hid : yc.id = rc.id
              rotate_left
              · have HM0 : Hid (manyL L rc.id (k + 1) = manyL L rc.id k) := Lib.hid (by rw [manyL_step hkL, if_neg (fun h => hid (by rw [HYC.out]; exact h.2)), Nat.add_zero])
                have BS2 := Lib.hid (BS.out.skip hkL (fun h => hid (by rw [HYC.out]; exact h.2)))
                have q0 := str_ne hid
                have q1 : (yc.id.toList == rc.id.toList) = false := beq_eq_false_iff_ne.2 (fun h => by rw [h] at q0; simp at q0)
                have q2 : (yc.id = rc.id) = False := eq_false hid
                have q3 : (yc.id.toList != rc.id.toList) = true := by simp only [bne, q1, Bool.not_false]
                have HB5' : Hid (Below w3.heap.size w3 (w4.alloc (.cells #[.int .u64 (yc.lsn : Int), .int .u32 (yc.ep : Int), .int .i64 yc.kind, .int .u64 (yc.ver : Int), .int .u64 (yc.dl : Int), .string yc.id, .string yc.va] (34 : Nat)))) := Lib.hid (by rw [← HW5.out]; exact HB5.out)
                rw [hkd] at rid HB5' ⊢
                clear hid BS hkd hko
                go_wp2_with fail
                go_roundw
                case rel => exact ⟨k + 1, bz, by omega, rfl, by rw [HM0.out], by first | rfl | (rw [WK.out]), BS2.out, HB5'.out⟩
                case measure => (try rw [WK.out]); simp only [intOf, Int.toNat_natCast]; omega
              · have hw5' := HW5.out
                rw [hid, hkd] at hw5' rid
                have HW5' := Lib.hid hw5'
                clear hw5'
                have HM1 : Hid (manyL L rc.id (k + 1) = manyL L rc.id k + 1) := Lib.hid (by rw [manyL_step hkL, if_pos (by rw [← HYC.out]; exact ⟨hko, hid⟩)])
                have hkL' : L[k].ok ∧ L[k].id = rc.id := by rw [← HYC.out]; exact ⟨hko, hid⟩
                have hm40 := manyL_le L rc.id k
                obtain ⟨mk, hmk⟩ : ∃ m, m = manyL L rc.id k := ⟨_, rfl⟩
                rw [← hmk] at hm40 ⊢
                have HMK := Lib.hid hmk
                have WM := Lib.hid (wrI mk (by omega))
                have wm := WM.out
                rw [hid] at YROW
                have q0 : (rc.id.toList == rc.id.toList) = true := beq_self_eq_true _
                have q1 : (rc.id.toList != rc.id.toList) = false := by simp
                rw [hid]
                clear hmk
                rcases BS.out with ⟨hb1, hno⟩ | ⟨jj, hb1, hbest⟩
                · subst hb1
                  have BS3 := Lib.hid (BestS.first BS.out hkL hkL'.1 hkL'.2)
                  clear hno hid hko hkL' BS
                  rw [hkd] at YROW ⊢
                  clear hkd
                  go_wp2_with fail
                  clear rid q0 q1
                  rw [← HW5'.out]
                  have wm2 := WM.out
                  clear wm
                  refine Loose.wp_region_quiet_fast (by kernel_rfl) (by kernel_rfl) ?_
                  (try simp only [List.append_eq, List.cons_append, List.nil_append])
                  repeat (go_big_quiet_step (fail))
                  refine wpQuiet_nil ?_
                  intro _ hw'
                  obtain ⟨⟨dq, osq⟩, hw''⟩ := hw'
                  subst hw''
                  have bQ := below_regrown w5 dq osq
                  have HBQ := Lib.hid (stepR HB5.out bQ)
                  clear bQ
                  go_wp2_with fail
                  go_roundw
                  case rel => exact ⟨k + 1, (k : Int), by omega, rfl, by first | (rw [HM1.out, ← HMK.out]; rfl) | (rw [HM1.out, ← HMK.out, WM.out]; rfl) | (rw [HM1.out, ← HMK.out]; exact congrArg _ WM.out), by first | rfl | (rw [WK.out]), BS3.out, HBQ.out⟩
                  case measure => (try rw [WK.out]); simp only [intOf, Int.toNat_natCast]; omega
                · subst hb1
                  obtain ⟨hjk, hjL, hjrest⟩ := hbest
                  have hbest : BestOf L k rc.id jj := ⟨hjk, hjL, hjrest⟩
                  have hjl : jj < l.length := by have := HLL.out; have := HN.out; omega
                  have hjn : (jj : Int) < (n : Int) := by omega
                  have hjn' : jj < n := by omega
                  have hj0 : ¬ ((jj : Int) < 0) := by omega
                  have hj1 : ((jj : Int) < 0) = False := eq_false hj0
                  have hj2 : decide ((jj : Int) < 0) = false := decide_eq_false hj0
                  have hj3 : ((jj : Int) ≥ 0) = True := eq_true (by omega)
                  obtain ⟨b3, o3, e, hcz⟩ := AT.out jj hjl
                  injection e with e
                  injection e with e1 e2
                  subst e1 e2
                  have zh := fun j u hu => ((stepR BB1.out HB3.out).cell (p := ⟨b, off + jj * 7 + j, none⟩) (lt_of_cellR (hcz j u hu))).trans (hcz j u hu)
                  have hcut2 := HLA.out jj hjl hjL
                  obtain ⟨z, hz⟩ : ∃ r, r = l[jj] := ⟨_, rfl⟩
                  rw [← hz] at zh hcut2
                  obtain ⟨zc, hzc⟩ : ∃ r, r = L[jj] := ⟨_, rfl⟩
                  rw [← hzc] at hcut2
                  have cz : ∀ W, Calls Try.prog 19 #[.agg #[.int .u64 (z.lsn : Int), .int .u32 (z.ep : Int), .int .i64 z.kind, .int .u64 (z.ver : Int), .int .u64 (z.dl : Int), .string z.id, .string z.va]] W fun e w' => e = .returned (.agg #[.int .u64 (zc.lsn : Int), .int .u32 (zc.ep : Int), .int .i64 zc.kind, .int .u64 (zc.ver : Int), .int .u64 (zc.dl : Int), .string zc.id, .string zc.va]) ∧ Below W.heap.size W w' := fun W => by
                    have h := CutR_val z W
                    rw [← hcut2] at h
                    exact h
                  have fldz : ∀ W : World, (Instr.field 34 (.agg #[.int .u64 (zc.lsn : Int), .int .u32 (zc.ep : Int), .int .i64 zc.kind, .int .u64 (zc.ver : Int), .int .u64 (zc.dl : Int), .string zc.id, .string zc.va]) 3).run Try.prog W = .ok (.int .u64 (zc.ver : Int)) W := fun _ => by kernel_rfl
                  have z0 := cell_regrown (show w5.cell? ⟨b, off + jj * 7, none⟩ = some (.int .u64 (z.lsn : Int)) from (HB5.out.cell (p := ⟨b, off + jj * 7, none⟩) (lt_of_cellR (zh 0 _ rfl))).trans (zh 0 _ rfl))
                  have z1 := cell_regrown (show w5.cell? ⟨b, off + jj * 7 + 1, none⟩ = some (.int .u32 (z.ep : Int)) from (HB5.out.cell (p := ⟨b, off + jj * 7 + 1, none⟩) (lt_of_cellR (zh 1 _ rfl))).trans (zh 1 _ rfl))
                  have z2 := cell_regrown (show w5.cell? ⟨b, off + jj * 7 + 2, none⟩ = some (.int .i64 z.kind) from (HB5.out.cell (p := ⟨b, off + jj * 7 + 2, none⟩) (lt_of_cellR (zh 2 _ rfl))).trans (zh 2 _ rfl))
                  have z3 := cell_regrown (show w5.cell? ⟨b, off + jj * 7 + 3, none⟩ = some (.int .u64 (z.ver : Int)) from (HB5.out.cell (p := ⟨b, off + jj * 7 + 3, none⟩) (lt_of_cellR (zh 3 _ rfl))).trans (zh 3 _ rfl))
                  have z4 := cell_regrown (show w5.cell? ⟨b, off + jj * 7 + 4, none⟩ = some (.int .u64 (z.dl : Int)) from (HB5.out.cell (p := ⟨b, off + jj * 7 + 4, none⟩) (lt_of_cellR (zh 4 _ rfl))).trans (zh 4 _ rfl))
                  have z5 := cell_regrown (show w5.cell? ⟨b, off + jj * 7 + 5, none⟩ = some (.string z.id) from (HB5.out.cell (p := ⟨b, off + jj * 7 + 5, none⟩) (lt_of_cellR (zh 5 _ rfl))).trans (zh 5 _ rfl))
                  have z6 := cell_regrown (show w5.cell? ⟨b, off + jj * 7 + 6, none⟩ = some (.string z.va) from (HB5.out.cell (p := ⟨b, off + jj * 7 + 6, none⟩) (lt_of_cellR (zh 6 _ rfl))).trans (zh 6 _ rfl))
                  have yv := cell_regrown (show w5.cell? ⟨w4.heap.size, 3, none⟩ = some (.int .u64 (yc.ver : Int)) from (cell_of_row _ _ 3 _ _ _ YROW.out).trans rfl)
                  have HZC := Lib.hid hzc
                  clear hz hzc hcut2 zh hcz hjrest hid hko
                  by_cases hv : zc.ver ≤ yc.ver
                  · have BS3 : Hid (BestS L rc.id (k + 1) (k : Int)) := Lib.hid (Or.inr ⟨k, rfl, BestOf.next (L := L) hbest hkL hkL'.1 hkL'.2 (fun h => by rw [← HZC.out, ← HYC.out]; exact hv)⟩)
                    have v1 : (zc.ver ≤ yc.ver) = True := eq_true hv
                    have v2 : ((yc.ver : Int) ≥ (zc.ver : Int)) = True := eq_true (by omega)
                    clear hbest hkL' BS hv
                    rw [hkd] at YROW ⊢
                    clear hkd
                    go_wp2_with fail
                    clear rid q0 q1
                    rw [← HW5'.out]
                    refine Loose.wp_region_quiet_fast (by kernel_rfl) (by kernel_rfl) ?_
                    (try simp only [List.append_eq, List.cons_append, List.nil_append])
                    repeat (go_big_quiet_step (fail))
                    go_big_quiet_step ((go_at_call 19; exact Calls.regrown_of (cz _)))
                    repeat (go_big_quiet_step (fail))
                    refine wpQuiet_nil ?_
                    intro _ hw'
                    obtain ⟨⟨dq, osq⟩, hw''⟩ := hw'
                    subst hw''
                    clear z0 z1 z2 z3 z4 z5 z6 yv v1 v2
                    have bQ := below_regrown w5 dq osq
                    have HBQ := Lib.hid (stepR HB5.out bQ)
                    clear bQ
                    go_wp2_with fail
                    go_roundw
                    case rel => exact ⟨k + 1, (k : Int), by omega, rfl, by first | (rw [HM1.out, ← HMK.out]; rfl) | (rw [HM1.out, ← HMK.out, WM.out]; rfl) | (rw [HM1.out, ← HMK.out]; exact congrArg _ WM.out), by first | rfl | (rw [WK.out]), BS3.out, HBQ.out⟩
                    case measure => (try rw [WK.out]); simp only [intOf, Int.toNat_natCast]; omega
                  · have BS3 : Hid (BestS L rc.id (k + 1) (jj : Int)) := Lib.hid (Or.inr ⟨jj, rfl, BestOf.stay (L := L) (k := k) (j := jj) hbest hkL (fun h => by rw [← HZC.out, ← HYC.out]; omega)⟩)
                    have v1 : (zc.ver ≤ yc.ver) = False := eq_false hv
                    have v2 : ((yc.ver : Int) ≥ (zc.ver : Int)) = False := eq_false (by omega)
                    clear hbest hkL' BS hv
                    rw [hkd] at YROW ⊢
                    clear hkd
                    go_wp2_with fail
                    clear rid q0 q1
                    rw [← HW5'.out]
                    refine Loose.wp_region_quiet_fast (by kernel_rfl) (by kernel_rfl) ?_
                    (try simp only [List.append_eq, List.cons_append, List.nil_append])
                    repeat (go_big_quiet_step (fail))
                    go_big_quiet_step ((go_at_call 19; exact Calls.regrown_of (cz _)))
                    repeat (go_big_quiet_step (fail))
                    refine wpQuiet_nil ?_
                    intro _ hw'
                    obtain ⟨⟨dq, osq⟩, hw''⟩ := hw'
                    subst hw''
                    clear z0 z1 z2 z3 z4 z5 z6 yv v1 v2
                    have bQ := below_regrown w5 dq osq
                    have HBQ := Lib.hid (stepR HB5.out bQ)
                    clear bQ
                    go_wp2_with fail
                    go_roundw
                    case rel => exact ⟨k + 1, (jj : Int), by omega, rfl, by first | (rw [HM1.out, ← HMK.out]; rfl) | (rw [HM1.out, ← HMK.out, WM.out]; rfl) | (rw [HM1.out, ← HMK.out]; exact congrArg _ WM.out), by first | rfl | (rw [WK.out]), BS3.out, HBQ.out⟩
                    case measure => (try rw [WK.out]); simp only [intOf, Int.toNat_natCast]; omega
        · have hbsx := BS.out
          by_cases h1 : k < n
          · have hkn2 : (k : Int) < (n : Int) := by omega
            have h402 : ¬ (k : Int) < 40 := by omega
            have hkL : k = L.length := by have := HLL.out; omega
            subst hkL
            clear hlt
            have IX2 := Lib.hid (IX1.out.below (stepR HB3.out HBI.out))
            have rid : wr.cell? ⟨w2.heap.size, 5, none⟩ = some (.string rc.id) := (cell_of_row _ _ 5 _ _ _ ((HBI.out.block _ (lt_of_rowR RROW.out)).trans RROW.out)).trans rfl
            rcases hbsx with ⟨rfl, hno⟩ | ⟨jj, rfl, hbest⟩
            · have hN : (fil L L.length).1 rc.id = none := by
                cases hf : (fil L L.length).1 rc.id with
                | none => rfl
                | some e =>
                  obtain ⟨j, hj, _⟩ := (fil_n (L := L) L.length (Nat.le_refl _) rc.id).1 e hf
                  exact absurd hj.2.2.2.1 (hno j hj.2.1 hj.1 hj.2.2.1)
              clear hno BS h1
              have NV : Hid (Calls Try.prog 16 #[.pointer (some ⟨X, 0, none⟩), .string rc.id] wr fun e w' => e = .returned (.tuple #[.agg #[.int .u64 0, .int .u64 0, .bool false, .int .i64 0, .int .i64 0, .int .i64 0], .bool false]) ∧ Below wr.heap.size wr w') := Lib.hid (by
                have h := INewest_val wr X bn bp 40 40 _ _ rc.id IX2.out (by have := HSZ.out; omega)
                rw [hN] at h
                exact h)
              clear hN
              go_wp2_with fail
              refine NV.out.mono ?_; rintro e w6 ⟨rfl, hb⟩
              obtain ⟨w7, hw7⟩ : ∃ W, W = w6.alloc (.cells #[.int .u64 0, .int .u64 0, .bool false, .int .i64 0, .int .i64 0, .int .i64 0] (49 : Nat)) := ⟨_, rfl⟩
              have b7 : Below wr.heap.size wr w7 := stepR hb (by rw [hw7]; exact (Below.refl _ _).alloc (Nat.le_refl _) _)
              have rid7 : w7.cell? ⟨w2.heap.size, 5, none⟩ = some (.string rc.id) := (b7.cell (lt_of_cellR rid)).trans rid
              have HW7 := Lib.hid hw7
              have HB7 := Lib.hid (stepR HBI.out b7)
              have IX7 := Lib.hid (IX2.out.below b7)
              have OV := Lib.hid (IOthers_val w7 X bn bp 40 40 _ _ rc.id (-1) IX7.out (by omega))
              clear hb b7 rid NV
              rw [hw7] at rid7
              clear hw7
              go_wp2_with fail
              rw [← HW7.out]
              refine OV.out.mono ?_; rintro e w8 ⟨⟨c, rfl, hs⟩, hb⟩
              have hc : c = (manyL L rc.id L.length : Int) := (hs _ QEN.out).trans (many_sum _ _ (Nat.le_refl _))
              subst hc
              have HB8 := Lib.hid (stepR HB7.out hb)
              clear hs hb rid7
              go_wp2_with fail
              refine Loose.wp_region_quiet_fast (by kernel_rfl) (by kernel_rfl) ?_
              (try simp only [List.append_eq, List.cons_append, List.nil_append])
              repeat (go_big_quiet_step (fail))
              refine wpQuiet_nil ?_
              intro _ hw'
              obtain ⟨⟨dq, osq⟩, hw''⟩ := hw'
              subst hw''
              have bQ := below_regrown w8 dq osq
              have HBQ := Lib.hid (stepR HB3.out (stepR HB8.out bQ))
              clear bQ
              go_wp2_with fail
              go_roundw
              case rel => exact ⟨q + 1, by omega, by first | rfl | (rw [WQ.out]), HBQ.out⟩
              case measure => (try rw [WQ.out]); simp only [intOf, Int.toNat_natCast]; omega
            · clear BS h1
              obtain ⟨hjk, hjL, hjo, hje, hjrest⟩ := hbest
              have hbest : BestOf L L.length rc.id jj := ⟨hjk, hjL, hjo, hje, hjrest⟩
              have hN := fil_best (Nat.le_refl _) hbest
              have hjl : jj < l.length := by have := HLL.out; have := HN.out; omega
              have hjn : (jj : Int) < (n : Int) := by have := HLL.out; omega
              have hjn' : jj < n := by omega
              have hj40 : jj < 40 := by have := HLL.out; omega
              have hj0 : ¬ ((jj : Int) < 0) := by omega
              have hj1 : ((jj : Int) < 0) = False := eq_false hj0
              have hj3 : ((jj : Int) ≥ 0) = True := eq_true (by omega)
              obtain ⟨b3, o3, e, hcz⟩ := AT.out jj hjl
              injection e with e
              injection e with e1 e2
              subst e1 e2
              have hcut2 := HLA.out jj hjl hjL
              obtain ⟨z, hz⟩ : ∃ r, r = l[jj] := ⟨_, rfl⟩
              rw [← hz] at hcz hcut2
              obtain ⟨zc, hzc⟩ : ∃ r, r = L[jj] := ⟨_, rfl⟩
              rw [← hzc] at hcut2 hjo hN
              have hkk : z.kind = zc.kind := by rw [hcut2]; rfl
              have cz : ∀ W, Calls Try.prog 19 #[.agg #[.int .u64 (z.lsn : Int), .int .u32 (z.ep : Int), .int .i64 z.kind, .int .u64 (z.ver : Int), .int .u64 (z.dl : Int), .string z.id, .string z.va]] W fun e w' => e = .returned (.agg #[.int .u64 (zc.lsn : Int), .int .u32 (zc.ep : Int), .int .i64 zc.kind, .int .u64 (zc.ver : Int), .int .u64 (zc.dl : Int), .string zc.id, .string zc.va]) ∧ Below W.heap.size W w' := fun W => by
                have h := CutR_val z W
                rw [← hcut2] at h
                exact h
              have fldz : ∀ W : World, (Instr.field 34 (.agg #[.int .u64 (zc.lsn : Int), .int .u32 (zc.ep : Int), .int .i64 zc.kind, .int .u64 (zc.ver : Int), .int .u64 (zc.dl : Int), .string zc.id, .string zc.va]) 3).run Try.prog W = .ok (.int .u64 (zc.ver : Int)) W := fun _ => by kernel_rfl
              obtain ⟨zz, hzz⟩ : ∃ zz : Int, zz = 31 + (zc.id.size : Int) + (zc.va.size : Int) := ⟨_, rfl⟩
              obtain ⟨jd, hjd⟩ : ∃ x, x = jj / 4 := ⟨_, rfl⟩
              obtain ⟨jm, hjm⟩ : ∃ x, x = jj % 4 := ⟨_, rfl⟩
              have HZZ := Lib.hid hzz
              have HJD := Lib.hid hjd
              have HJM := Lib.hid hjm
              clear hz hzc hcut2 hjrest hje hbest hzz hjd hjm
              rcases hjo with hkd | hkd
              · have HKZ := Lib.hid (show z.kind = 1 from hkk.trans hkd)
                have NV : Hid (Calls Try.prog 16 #[.pointer (some ⟨X, 0, none⟩), .string rc.id] wr fun e w' => e = .returned (.tuple #[.agg #[.int .u64 (zc.ver : Int), .int .u64 (zc.dl : Int), .bool true, .int .i64 zz, .int .i64 (jd : Int), .int .i64 (jm : Int)], .bool true]) ∧ Below wr.heap.size wr w') := Lib.hid (by
                  have h := INewest_val wr X bn bp 40 40 _ _ rc.id IX2.out (by have := HSZ.out; omega)
                  rw [hN, show (some (zc.ent (plc jj))).getD Ent.zero = zc.ent (plc jj) from rfl, show (some (zc.ent (plc jj))).isSome = true from rfl, show (zc.ent (plc jj)).row = (#[.int .u64 (zc.ver : Int), .int .u64 (zc.dl : Int), .bool (decide (zc.kind = 1)), .int .i64 (31 + (zc.id.size : Int) + (zc.va.size : Int)), .int .i64 ((jj / 4 : Nat) : Int), .int .i64 ((jj % 4 : Nat) : Int)] : Array Value) from rfl, ← HZZ.out, ← HJD.out, ← HJM.out, show decide (zc.kind = 1) = true from by rw [hkd]; rfl] at h
                  exact h)
                clear hN
                go_wp2_with fail
                refine NV.out.mono ?_; rintro e w6 ⟨rfl, hb⟩
                obtain ⟨w7, hw7⟩ : ∃ W, W = w6.alloc (.cells #[.int .u64 (zc.ver : Int), .int .u64 (zc.dl : Int), .bool true, .int .i64 zz, .int .i64 (jd : Int), .int .i64 (jm : Int)] (49 : Nat)) := ⟨_, rfl⟩
                have b7 : Below wr.heap.size wr w7 := stepR hb (by rw [hw7]; exact (Below.refl _ _).alloc (Nat.le_refl _) _)
                have rid7 : w7.cell? ⟨w2.heap.size, 5, none⟩ = some (.string rc.id) := (b7.cell (lt_of_cellR rid)).trans rid
                have ROW7 : Hid (w7.heap[w6.heap.size]? = some (.cells #[.int .u64 (zc.ver : Int), .int .u64 (zc.dl : Int), .bool true, .int .i64 zz, .int .i64 (jd : Int), .int .i64 (jm : Int)] (49 : Nat) (0, 0))) := Lib.hid (by rw [hw7]; exact heap_alloc_new _ _)
                have HW7 := Lib.hid hw7
                have HB7 := Lib.hid (stepR HBI.out b7)
                have IX7 := Lib.hid (IX2.out.below b7)
                have OV := Lib.hid (IOthers_val w7 X bn bp 40 40 _ _ rc.id (-1) IX7.out (by omega))
                have W1_ := Lib.hid (show wrap64 (jd : Int) = (jd : Int) from IntWalk.wrap64_in _ (by have := HJD.out; omega))
                have W2_ := Lib.hid (show wrap64 (jm : Int) = (jm : Int) from IntWalk.wrap64_in _ (by have := HJM.out; omega))
                clear hb b7 rid NV
                rw [hw7] at rid7
                clear hw7
                go_wp2_with fail
                rw [← HW7.out]
                refine OV.out.mono ?_; rintro e w8 ⟨⟨c, rfl, hs⟩, hb⟩
                have hc : c = (manyL L rc.id L.length : Int) := (hs _ QEN.out).trans (many_sum _ _ (Nat.le_refl _))
                subst hc
                have HB8 := Lib.hid (stepR HB7.out hb)
                have zh := fun j u hu => ((stepR BB1.out (stepR HB3.out HB8.out)).cell (p := ⟨b, off + jj * 7 + j, none⟩) (lt_of_cellR (hcz j u hu))).trans (hcz j u hu)
                have z0 := cell_regrown (show w8.cell? ⟨b, off + jj * 7, none⟩ = some (.int .u64 (z.lsn : Int)) from ((Below.refl w8.heap.size w8).cell (p := ⟨b, off + jj * 7, none⟩) (lt_of_cellR (zh 0 _ rfl))).trans (zh 0 _ rfl))
                have z1 := cell_regrown (show w8.cell? ⟨b, off + jj * 7 + 1, none⟩ = some (.int .u32 (z.ep : Int)) from ((Below.refl w8.heap.size w8).cell (p := ⟨b, off + jj * 7 + 1, none⟩) (lt_of_cellR (zh 1 _ rfl))).trans (zh 1 _ rfl))
                have z2 := cell_regrown (show w8.cell? ⟨b, off + jj * 7 + 2, none⟩ = some (.int .i64 z.kind) from ((Below.refl w8.heap.size w8).cell (p := ⟨b, off + jj * 7 + 2, none⟩) (lt_of_cellR (zh 2 _ rfl))).trans (zh 2 _ rfl))
                have z3 := cell_regrown (show w8.cell? ⟨b, off + jj * 7 + 3, none⟩ = some (.int .u64 (z.ver : Int)) from ((Below.refl w8.heap.size w8).cell (p := ⟨b, off + jj * 7 + 3, none⟩) (lt_of_cellR (zh 3 _ rfl))).trans (zh 3 _ rfl))
                have z4 := cell_regrown (show w8.cell? ⟨b, off + jj * 7 + 4, none⟩ = some (.int .u64 (z.dl : Int)) from ((Below.refl w8.heap.size w8).cell (p := ⟨b, off + jj * 7 + 4, none⟩) (lt_of_cellR (zh 4 _ rfl))).trans (zh 4 _ rfl))
                have z5 := cell_regrown (show w8.cell? ⟨b, off + jj * 7 + 5, none⟩ = some (.string z.id) from ((Below.refl w8.heap.size w8).cell (p := ⟨b, off + jj * 7 + 5, none⟩) (lt_of_cellR (zh 5 _ rfl))).trans (zh 5 _ rfl))
                have z6 := cell_regrown (show w8.cell? ⟨b, off + jj * 7 + 6, none⟩ = some (.string z.va) from ((Below.refl w8.heap.size w8).cell (p := ⟨b, off + jj * 7 + 6, none⟩) (lt_of_cellR (zh 6 _ rfl))).trans (zh 6 _ rfl))
                have row8 := (hb.block _ (lt_of_rowR ROW7.out)).trans ROW7.out
                have e0 := cell_regrown (show w8.cell? ⟨w6.heap.size, 0, none⟩ = some (.int .u64 (zc.ver : Int)) from (cell_of_row _ _ 0 _ _ _ row8).trans rfl)
                have e2 := cell_regrown (show w8.cell? ⟨w6.heap.size, 2, none⟩ = some (.bool true) from (cell_of_row _ _ 2 _ _ _ row8).trans rfl)
                have e4 := cell_regrown (show w8.cell? ⟨w6.heap.size, 4, none⟩ = some (.int .i64 (jd : Int)) from (cell_of_row _ _ 4 _ _ _ row8).trans rfl)
                have e5 := cell_regrown (show w8.cell? ⟨w6.heap.size, 5, none⟩ = some (.int .i64 (jm : Int)) from (cell_of_row _ _ 5 _ _ _ row8).trans rfl)
                have d3 : wrap64 (Int.tdiv (jj : Int) 4) = (jd : Int) := by rw [tdiv4 jj, ← HJD.out]; exact W1_.out
                have d4 : wrap64 (Int.tmod (jj : Int) 4) = (jm : Int) := by rw [tmod4 jj, ← HJM.out]; exact W2_.out
                have d5 : ((jd : Int) = (jj : Int) / 4) = True := eq_true (by have := HJD.out; omega)
                have d6 : ((jm : Int) = (jj : Int) % 4) = True := eq_true (by have := HJM.out; omega)
                clear hs hb rid7 row8 zh hcz hkk hkd
                go_wp2_with fail
                refine Loose.wp_region_quiet_fast (by kernel_rfl) (by kernel_rfl) ?_
                (try simp only [List.append_eq, List.cons_append, List.nil_append])
                go_big_quiet_step (fail)
                go_big_quiet_step (fail)
                go_big_quiet_step (fail)
                go_big_quiet_step (fail)
                go_big_quiet_step (fail)
                go_big_quiet_step (fail)
                go_big_quiet_step (fail)
                go_big_quiet_step (fail)
                go_big_quiet_step (fail)
                go_big_quiet_step (fail)
                clear d3 d4 d5 d6 e4 e5
                repeat (go_big_quiet_step (fail))
                go_big_quiet_step ((go_at_call 19; exact Calls.regrown_of (cz _)))
                go_big_quiet_step (fail)
                go_big_quiet_step (fail)
                have kz := HKZ.out
                repeat (go_big_quiet_step (fail))
                refine wpQuiet_nil ?_
                intro _ hw'
                obtain ⟨⟨dq, osq⟩, hw''⟩ := hw'
                subst hw''
                clear z0 z1 z2 z3 z4 z5 z6 e0 e2 kz
                have bQ := below_regrown w8 dq osq
                have HBQ := Lib.hid (stepR HB3.out (stepR HB8.out bQ))
                clear bQ
                go_wp2_with fail
                go_roundw
                case rel => exact ⟨q + 1, by omega, by first | rfl | (rw [WQ.out]), HBQ.out⟩
                case measure => (try rw [WQ.out]); simp only [intOf, Int.toNat_natCast]; omega
              · have HKZ := Lib.hid (show z.kind = 2 from hkk.trans hkd)
                have NV : Hid (Calls Try.prog 16 #[.pointer (some ⟨X, 0, none⟩), .string rc.id] wr fun e w' => e = .returned (.tuple #[.agg #[.int .u64 (zc.ver : Int), .int .u64 (zc.dl : Int), .bool false, .int .i64 zz, .int .i64 (jd : Int), .int .i64 (jm : Int)], .bool true]) ∧ Below wr.heap.size wr w') := Lib.hid (by
                  have h := INewest_val wr X bn bp 40 40 _ _ rc.id IX2.out (by have := HSZ.out; omega)
                  rw [hN, show (some (zc.ent (plc jj))).getD Ent.zero = zc.ent (plc jj) from rfl, show (some (zc.ent (plc jj))).isSome = true from rfl, show (zc.ent (plc jj)).row = (#[.int .u64 (zc.ver : Int), .int .u64 (zc.dl : Int), .bool (decide (zc.kind = 1)), .int .i64 (31 + (zc.id.size : Int) + (zc.va.size : Int)), .int .i64 ((jj / 4 : Nat) : Int), .int .i64 ((jj % 4 : Nat) : Int)] : Array Value) from rfl, ← HZZ.out, ← HJD.out, ← HJM.out, show decide (zc.kind = 1) = false from by rw [hkd]; rfl] at h
                  exact h)
                clear hN
                go_wp2_with fail
                refine NV.out.mono ?_; rintro e w6 ⟨rfl, hb⟩
                obtain ⟨w7, hw7⟩ : ∃ W, W = w6.alloc (.cells #[.int .u64 (zc.ver : Int), .int .u64 (zc.dl : Int), .bool false, .int .i64 zz, .int .i64 (jd : Int), .int .i64 (jm : Int)] (49 : Nat)) := ⟨_, rfl⟩
                have b7 : Below wr.heap.size wr w7 := stepR hb (by rw [hw7]; exact (Below.refl _ _).alloc (Nat.le_refl _) _)
                have rid7 : w7.cell? ⟨w2.heap.size, 5, none⟩ = some (.string rc.id) := (b7.cell (lt_of_cellR rid)).trans rid
                have ROW7 : Hid (w7.heap[w6.heap.size]? = some (.cells #[.int .u64 (zc.ver : Int), .int .u64 (zc.dl : Int), .bool false, .int .i64 zz, .int .i64 (jd : Int), .int .i64 (jm : Int)] (49 : Nat) (0, 0))) := Lib.hid (by rw [hw7]; exact heap_alloc_new _ _)
                have HW7 := Lib.hid hw7
                have HB7 := Lib.hid (stepR HBI.out b7)
                have IX7 := Lib.hid (IX2.out.below b7)
                have OV := Lib.hid (IOthers_val w7 X bn bp 40 40 _ _ rc.id (-1) IX7.out (by omega))
                have W1_ := Lib.hid (show wrap64 (jd : Int) = (jd : Int) from IntWalk.wrap64_in _ (by have := HJD.out; omega))
                have W2_ := Lib.hid (show wrap64 (jm : Int) = (jm : Int) from IntWalk.wrap64_in _ (by have := HJM.out; omega))
                clear hb b7 rid NV
                rw [hw7] at rid7
                clear hw7
                go_wp2_with fail
                rw [← HW7.out]
                refine OV.out.mono ?_; rintro e w8 ⟨⟨c, rfl, hs⟩, hb⟩
                have hc : c = (manyL L rc.id L.length : Int) := (hs _ QEN.out).trans (many_sum _ _ (Nat.le_refl _))
                subst hc
                have HB8 := Lib.hid (stepR HB7.out hb)
                have zh := fun j u hu => ((stepR BB1.out (stepR HB3.out HB8.out)).cell (p := ⟨b, off + jj * 7 + j, none⟩) (lt_of_cellR (hcz j u hu))).trans (hcz j u hu)
                have z0 := cell_regrown (show w8.cell? ⟨b, off + jj * 7, none⟩ = some (.int .u64 (z.lsn : Int)) from ((Below.refl w8.heap.size w8).cell (p := ⟨b, off + jj * 7, none⟩) (lt_of_cellR (zh 0 _ rfl))).trans (zh 0 _ rfl))
                have z1 := cell_regrown (show w8.cell? ⟨b, off + jj * 7 + 1, none⟩ = some (.int .u32 (z.ep : Int)) from ((Below.refl w8.heap.size w8).cell (p := ⟨b, off + jj * 7 + 1, none⟩) (lt_of_cellR (zh 1 _ rfl))).trans (zh 1 _ rfl))
                have z2 := cell_regrown (show w8.cell? ⟨b, off + jj * 7 + 2, none⟩ = some (.int .i64 z.kind) from ((Below.refl w8.heap.size w8).cell (p := ⟨b, off + jj * 7 + 2, none⟩) (lt_of_cellR (zh 2 _ rfl))).trans (zh 2 _ rfl))
                have z3 := cell_regrown (show w8.cell? ⟨b, off + jj * 7 + 3, none⟩ = some (.int .u64 (z.ver : Int)) from ((Below.refl w8.heap.size w8).cell (p := ⟨b, off + jj * 7 + 3, none⟩) (lt_of_cellR (zh 3 _ rfl))).trans (zh 3 _ rfl))
                have z4 := cell_regrown (show w8.cell? ⟨b, off + jj * 7 + 4, none⟩ = some (.int .u64 (z.dl : Int)) from ((Below.refl w8.heap.size w8).cell (p := ⟨b, off + jj * 7 + 4, none⟩) (lt_of_cellR (zh 4 _ rfl))).trans (zh 4 _ rfl))
                have z5 := cell_regrown (show w8.cell? ⟨b, off + jj * 7 + 5, none⟩ = some (.string z.id) from ((Below.refl w8.heap.size w8).cell (p := ⟨b, off + jj * 7 + 5, none⟩) (lt_of_cellR (zh 5 _ rfl))).trans (zh 5 _ rfl))
                have z6 := cell_regrown (show w8.cell? ⟨b, off + jj * 7 + 6, none⟩ = some (.string z.va) from ((Below.refl w8.heap.size w8).cell (p := ⟨b, off + jj * 7 + 6, none⟩) (lt_of_cellR (zh 6 _ rfl))).trans (zh 6 _ rfl))
                have row8 := (hb.block _ (lt_of_rowR ROW7.out)).trans ROW7.out
                have e0 := cell_regrown (show w8.cell? ⟨w6.heap.size, 0, none⟩ = some (.int .u64 (zc.ver : Int)) from (cell_of_row _ _ 0 _ _ _ row8).trans rfl)
                have e2 := cell_regrown (show w8.cell? ⟨w6.heap.size, 2, none⟩ = some (.bool false) from (cell_of_row _ _ 2 _ _ _ row8).trans rfl)
                have e4 := cell_regrown (show w8.cell? ⟨w6.heap.size, 4, none⟩ = some (.int .i64 (jd : Int)) from (cell_of_row _ _ 4 _ _ _ row8).trans rfl)
                have e5 := cell_regrown (show w8.cell? ⟨w6.heap.size, 5, none⟩ = some (.int .i64 (jm : Int)) from (cell_of_row _ _ 5 _ _ _ row8).trans rfl)
                have d3 : wrap64 (Int.tdiv (jj : Int) 4) = (jd : Int) := by rw [tdiv4 jj, ← HJD.out]; exact W1_.out
                have d4 : wrap64 (Int.tmod (jj : Int) 4) = (jm : Int) := by rw [tmod4 jj, ← HJM.out]; exact W2_.out
                have d5 : ((jd : Int) = (jj : Int) / 4) = True := eq_true (by have := HJD.out; omega)
                have d6 : ((jm : Int) = (jj : Int) % 4) = True := eq_true (by have := HJM.out; omega)
                clear hs hb rid7 row8 zh hcz hkk hkd
                go_wp2_with fail
                refine Loose.wp_region_quiet_fast (by kernel_rfl) (by kernel_rfl) ?_
                (try simp only [List.append_eq, List.cons_append, List.nil_append])
                go_big_quiet_step (fail)
                go_big_quiet_step (fail)
                go_big_quiet_step (fail)
                go_big_quiet_step (fail)
                go_big_quiet_step (fail)
                go_big_quiet_step (fail)
                go_big_quiet_step (fail)
                go_big_quiet_step (fail)
                go_big_quiet_step (fail)
                go_big_quiet_step (fail)
                clear d3 d4 d5 d6 e4 e5
                repeat (go_big_quiet_step (fail))
                go_big_quiet_step ((go_at_call 19; exact Calls.regrown_of (cz _)))
                go_big_quiet_step (fail)
                go_big_quiet_step (fail)
                have kz := HKZ.out
                repeat (go_big_quiet_step (fail))
                refine wpQuiet_nil ?_
                intro _ hw'
                obtain ⟨⟨dq, osq⟩, hw''⟩ := hw'
                subst hw''
                clear z0 z1 z2 z3 z4 z5 z6 e0 e2 kz
                have bQ := below_regrown w8 dq osq
                have HBQ := Lib.hid (stepR HB3.out (stepR HB8.out bQ))
                clear bQ
                go_wp2_with fail
                go_roundw
                case rel => exact ⟨q + 1, by omega, by first | rfl | (rw [WQ.out]), HBQ.out⟩
                case measure => (try rw [WQ.out]); simp only [intOf, Int.toNat_natCast]; omega
          · have hkn2 : ¬ (k : Int) < (n : Int) := by omega
            have hkL : k = L.length := by have := HLL.out; omega
            subst hkL
            clear hlt
            have IX2 := Lib.hid (IX1.out.below (stepR HB3.out HBI.out))
            have rid : wr.cell? ⟨w2.heap.size, 5, none⟩ = some (.string rc.id) := (cell_of_row _ _ 5 _ _ _ ((HBI.out.block _ (lt_of_rowR RROW.out)).trans RROW.out)).trans rfl
            rcases hbsx with ⟨rfl, hno⟩ | ⟨jj, rfl, hbest⟩
            · have hN : (fil L L.length).1 rc.id = none := by
                cases hf : (fil L L.length).1 rc.id with
                | none => rfl
                | some e =>
                  obtain ⟨j, hj, _⟩ := (fil_n (L := L) L.length (Nat.le_refl _) rc.id).1 e hf
                  exact absurd hj.2.2.2.1 (hno j hj.2.1 hj.1 hj.2.2.1)
              clear hno BS h1
              have NV : Hid (Calls Try.prog 16 #[.pointer (some ⟨X, 0, none⟩), .string rc.id] wr fun e w' => e = .returned (.tuple #[.agg #[.int .u64 0, .int .u64 0, .bool false, .int .i64 0, .int .i64 0, .int .i64 0], .bool false]) ∧ Below wr.heap.size wr w') := Lib.hid (by
                have h := INewest_val wr X bn bp 40 40 _ _ rc.id IX2.out (by have := HSZ.out; omega)
                rw [hN] at h
                exact h)
              clear hN
              go_wp2_with fail
              refine NV.out.mono ?_; rintro e w6 ⟨rfl, hb⟩
              obtain ⟨w7, hw7⟩ : ∃ W, W = w6.alloc (.cells #[.int .u64 0, .int .u64 0, .bool false, .int .i64 0, .int .i64 0, .int .i64 0] (49 : Nat)) := ⟨_, rfl⟩
              have b7 : Below wr.heap.size wr w7 := stepR hb (by rw [hw7]; exact (Below.refl _ _).alloc (Nat.le_refl _) _)
              have rid7 : w7.cell? ⟨w2.heap.size, 5, none⟩ = some (.string rc.id) := (b7.cell (lt_of_cellR rid)).trans rid
              have HW7 := Lib.hid hw7
              have HB7 := Lib.hid (stepR HBI.out b7)
              have IX7 := Lib.hid (IX2.out.below b7)
              have OV := Lib.hid (IOthers_val w7 X bn bp 40 40 _ _ rc.id (-1) IX7.out (by omega))
              clear hb b7 rid NV
              rw [hw7] at rid7
              clear hw7
              go_wp2_with fail
              rw [← HW7.out]
              refine OV.out.mono ?_; rintro e w8 ⟨⟨c, rfl, hs⟩, hb⟩
              have hc : c = (manyL L rc.id L.length : Int) := (hs _ QEN.out).trans (many_sum _ _ (Nat.le_refl _))
              subst hc
              have HB8 := Lib.hid (stepR HB7.out hb)
              clear hs hb rid7
              go_wp2_with fail
              refine Loose.wp_region_quiet_fast (by kernel_rfl) (by kernel_rfl) ?_
              (try simp only [List.append_eq, List.cons_append, List.nil_append])
              repeat (go_big_quiet_step (fail))
              refine wpQuiet_nil ?_
              intro _ hw'
              obtain ⟨⟨dq, osq⟩, hw''⟩ := hw'
              subst hw''
              have bQ := below_regrown w8 dq osq
              have HBQ := Lib.hid (stepR HB3.out (stepR HB8.out bQ))
              clear bQ
              go_wp2_with fail
              go_roundw
              case rel => exact ⟨q + 1, by omega, by first | rfl | (rw [WQ.out]), HBQ.out⟩
              case measure => (try rw [WQ.out]); simp only [intOf, Int.toNat_natCast]; omega
            · clear BS h1
              obtain ⟨hjk, hjL, hjo, hje, hjrest⟩ := hbest
              have hbest : BestOf L L.length rc.id jj := ⟨hjk, hjL, hjo, hje, hjrest⟩
              have hN := fil_best (Nat.le_refl _) hbest
              have hjl : jj < l.length := by have := HLL.out; have := HN.out; omega
              have hjn : (jj : Int) < (n : Int) := by have := HLL.out; omega
              have hjn' : jj < n := by omega
              have hj40 : jj < 40 := by have := HLL.out; omega
              have hj0 : ¬ ((jj : Int) < 0) := by omega
              have hj1 : ((jj : Int) < 0) = False := eq_false hj0
              have hj3 : ((jj : Int) ≥ 0) = True := eq_true (by omega)
              obtain ⟨b3, o3, e, hcz⟩ := AT.out jj hjl
              injection e with e
              injection e with e1 e2
              subst e1 e2
              have hcut2 := HLA.out jj hjl hjL
              obtain ⟨z, hz⟩ : ∃ r, r = l[jj] := ⟨_, rfl⟩
              rw [← hz] at hcz hcut2
              obtain ⟨zc, hzc⟩ : ∃ r, r = L[jj] := ⟨_, rfl⟩
              rw [← hzc] at hcut2 hjo hN
              have hkk : z.kind = zc.kind := by rw [hcut2]; rfl
              have cz : ∀ W, Calls Try.prog 19 #[.agg #[.int .u64 (z.lsn : Int), .int .u32 (z.ep : Int), .int .i64 z.kind, .int .u64 (z.ver : Int), .int .u64 (z.dl : Int), .string z.id, .string z.va]] W fun e w' => e = .returned (.agg #[.int .u64 (zc.lsn : Int), .int .u32 (zc.ep : Int), .int .i64 zc.kind, .int .u64 (zc.ver : Int), .int .u64 (zc.dl : Int), .string zc.id, .string zc.va]) ∧ Below W.heap.size W w' := fun W => by
                have h := CutR_val z W
                rw [← hcut2] at h
                exact h
              have fldz : ∀ W : World, (Instr.field 34 (.agg #[.int .u64 (zc.lsn : Int), .int .u32 (zc.ep : Int), .int .i64 zc.kind, .int .u64 (zc.ver : Int), .int .u64 (zc.dl : Int), .string zc.id, .string zc.va]) 3).run Try.prog W = .ok (.int .u64 (zc.ver : Int)) W := fun _ => by kernel_rfl
              obtain ⟨zz, hzz⟩ : ∃ zz : Int, zz = 31 + (zc.id.size : Int) + (zc.va.size : Int) := ⟨_, rfl⟩
              obtain ⟨jd, hjd⟩ : ∃ x, x = jj / 4 := ⟨_, rfl⟩
              obtain ⟨jm, hjm⟩ : ∃ x, x = jj % 4 := ⟨_, rfl⟩
              have HZZ := Lib.hid hzz
              have HJD := Lib.hid hjd
              have HJM := Lib.hid hjm
              clear hz hzc hcut2 hjrest hje hbest hzz hjd hjm
              rcases hjo with hkd | hkd
              · have HKZ := Lib.hid (show z.kind = 1 from hkk.trans hkd)
                have NV : Hid (Calls Try.prog 16 #[.pointer (some ⟨X, 0, none⟩), .string rc.id] wr fun e w' => e = .returned (.tuple #[.agg #[.int .u64 (zc.ver : Int), .int .u64 (zc.dl : Int), .bool true, .int .i64 zz, .int .i64 (jd : Int), .int .i64 (jm : Int)], .bool true]) ∧ Below wr.heap.size wr w') := Lib.hid (by
                  have h := INewest_val wr X bn bp 40 40 _ _ rc.id IX2.out (by have := HSZ.out; omega)
                  rw [hN, show (some (zc.ent (plc jj))).getD Ent.zero = zc.ent (plc jj) from rfl, show (some (zc.ent (plc jj))).isSome = true from rfl, show (zc.ent (plc jj)).row = (#[.int .u64 (zc.ver : Int), .int .u64 (zc.dl : Int), .bool (decide (zc.kind = 1)), .int .i64 (31 + (zc.id.size : Int) + (zc.va.size : Int)), .int .i64 ((jj / 4 : Nat) : Int), .int .i64 ((jj % 4 : Nat) : Int)] : Array Value) from rfl, ← HZZ.out, ← HJD.out, ← HJM.out, show decide (zc.kind = 1) = true from by rw [hkd]; rfl] at h
                  exact h)
                clear hN
                go_wp2_with fail
                refine NV.out.mono ?_; rintro e w6 ⟨rfl, hb⟩
                obtain ⟨w7, hw7⟩ : ∃ W, W = w6.alloc (.cells #[.int .u64 (zc.ver : Int), .int .u64 (zc.dl : Int), .bool true, .int .i64 zz, .int .i64 (jd : Int), .int .i64 (jm : Int)] (49 : Nat)) := ⟨_, rfl⟩
                have b7 : Below wr.heap.size wr w7 := stepR hb (by rw [hw7]; exact (Below.refl _ _).alloc (Nat.le_refl _) _)
                have rid7 : w7.cell? ⟨w2.heap.size, 5, none⟩ = some (.string rc.id) := (b7.cell (lt_of_cellR rid)).trans rid
                have ROW7 : Hid (w7.heap[w6.heap.size]? = some (.cells #[.int .u64 (zc.ver : Int), .int .u64 (zc.dl : Int), .bool true, .int .i64 zz, .int .i64 (jd : Int), .int .i64 (jm : Int)] (49 : Nat) (0, 0))) := Lib.hid (by rw [hw7]; exact heap_alloc_new _ _)
                have HW7 := Lib.hid hw7
                have HB7 := Lib.hid (stepR HBI.out b7)
                have IX7 := Lib.hid (IX2.out.below b7)
                have OV := Lib.hid (IOthers_val w7 X bn bp 40 40 _ _ rc.id (-1) IX7.out (by omega))
                have W1_ := Lib.hid (show wrap64 (jd : Int) = (jd : Int) from IntWalk.wrap64_in _ (by have := HJD.out; omega))
                have W2_ := Lib.hid (show wrap64 (jm : Int) = (jm : Int) from IntWalk.wrap64_in _ (by have := HJM.out; omega))
                clear hb b7 rid NV
                rw [hw7] at rid7
                clear hw7
                go_wp2_with fail
                rw [← HW7.out]
                refine OV.out.mono ?_; rintro e w8 ⟨⟨c, rfl, hs⟩, hb⟩
                have hc : c = (manyL L rc.id L.length : Int) := (hs _ QEN.out).trans (many_sum _ _ (Nat.le_refl _))
                subst hc
                have HB8 := Lib.hid (stepR HB7.out hb)
                have zh := fun j u hu => ((stepR BB1.out (stepR HB3.out HB8.out)).cell (p := ⟨b, off + jj * 7 + j, none⟩) (lt_of_cellR (hcz j u hu))).trans (hcz j u hu)
                have z0 := cell_regrown (show w8.cell? ⟨b, off + jj * 7, none⟩ = some (.int .u64 (z.lsn : Int)) from ((Below.refl w8.heap.size w8).cell (p := ⟨b, off + jj * 7, none⟩) (lt_of_cellR (zh 0 _ rfl))).trans (zh 0 _ rfl))
                have z1 := cell_regrown (show w8.cell? ⟨b, off + jj * 7 + 1, none⟩ = some (.int .u32 (z.ep : Int)) from ((Below.refl w8.heap.size w8).cell (p := ⟨b, off + jj * 7 + 1, none⟩) (lt_of_cellR (zh 1 _ rfl))).trans (zh 1 _ rfl))
                have z2 := cell_regrown (show w8.cell? ⟨b, off + jj * 7 + 2, none⟩ = some (.int .i64 z.kind) from ((Below.refl w8.heap.size w8).cell (p := ⟨b, off + jj * 7 + 2, none⟩) (lt_of_cellR (zh 2 _ rfl))).trans (zh 2 _ rfl))
                have z3 := cell_regrown (show w8.cell? ⟨b, off + jj * 7 + 3, none⟩ = some (.int .u64 (z.ver : Int)) from ((Below.refl w8.heap.size w8).cell (p := ⟨b, off + jj * 7 + 3, none⟩) (lt_of_cellR (zh 3 _ rfl))).trans (zh 3 _ rfl))
                have z4 := cell_regrown (show w8.cell? ⟨b, off + jj * 7 + 4, none⟩ = some (.int .u64 (z.dl : Int)) from ((Below.refl w8.heap.size w8).cell (p := ⟨b, off + jj * 7 + 4, none⟩) (lt_of_cellR (zh 4 _ rfl))).trans (zh 4 _ rfl))
                have z5 := cell_regrown (show w8.cell? ⟨b, off + jj * 7 + 5, none⟩ = some (.string z.id) from ((Below.refl w8.heap.size w8).cell (p := ⟨b, off + jj * 7 + 5, none⟩) (lt_of_cellR (zh 5 _ rfl))).trans (zh 5 _ rfl))
                have z6 := cell_regrown (show w8.cell? ⟨b, off + jj * 7 + 6, none⟩ = some (.string z.va) from ((Below.refl w8.heap.size w8).cell (p := ⟨b, off + jj * 7 + 6, none⟩) (lt_of_cellR (zh 6 _ rfl))).trans (zh 6 _ rfl))
                have row8 := (hb.block _ (lt_of_rowR ROW7.out)).trans ROW7.out
                have e0 := cell_regrown (show w8.cell? ⟨w6.heap.size, 0, none⟩ = some (.int .u64 (zc.ver : Int)) from (cell_of_row _ _ 0 _ _ _ row8).trans rfl)
                have e2 := cell_regrown (show w8.cell? ⟨w6.heap.size, 2, none⟩ = some (.bool true) from (cell_of_row _ _ 2 _ _ _ row8).trans rfl)
                have e4 := cell_regrown (show w8.cell? ⟨w6.heap.size, 4, none⟩ = some (.int .i64 (jd : Int)) from (cell_of_row _ _ 4 _ _ _ row8).trans rfl)
                have e5 := cell_regrown (show w8.cell? ⟨w6.heap.size, 5, none⟩ = some (.int .i64 (jm : Int)) from (cell_of_row _ _ 5 _ _ _ row8).trans rfl)
                have d3 : wrap64 (Int.tdiv (jj : Int) 4) = (jd : Int) := by rw [tdiv4 jj, ← HJD.out]; exact W1_.out
                have d4 : wrap64 (Int.tmod (jj : Int) 4) = (jm : Int) := by rw [tmod4 jj, ← HJM.out]; exact W2_.out
                have d5 : ((jd : Int) = (jj : Int) / 4) = True := eq_true (by have := HJD.out; omega)
                have d6 : ((jm : Int) = (jj : Int) % 4) = True := eq_true (by have := HJM.out; omega)
                clear hs hb rid7 row8 zh hcz hkk hkd
                go_wp2_with fail
                refine Loose.wp_region_quiet_fast (by kernel_rfl) (by kernel_rfl) ?_
                (try simp only [List.append_eq, List.cons_append, List.nil_append])
                go_big_quiet_step (fail)
                go_big_quiet_step (fail)
                go_big_quiet_step (fail)
                go_big_quiet_step (fail)
                go_big_quiet_step (fail)
                go_big_quiet_step (fail)
                go_big_quiet_step (fail)
                go_big_quiet_step (fail)
                go_big_quiet_step (fail)
                go_big_quiet_step (fail)
                clear d3 d4 d5 d6 e4 e5
                repeat (go_big_quiet_step (fail))
                go_big_quiet_step ((go_at_call 19; exact Calls.regrown_of (cz _)))
                go_big_quiet_step (fail)
                go_big_quiet_step (fail)
                have kz := HKZ.out
                repeat (go_big_quiet_step (fail))
                refine wpQuiet_nil ?_
                intro _ hw'
                obtain ⟨⟨dq, osq⟩, hw''⟩ := hw'
                subst hw''
                clear z0 z1 z2 z3 z4 z5 z6 e0 e2 kz
                have bQ := below_regrown w8 dq osq
                have HBQ := Lib.hid (stepR HB3.out (stepR HB8.out bQ))
                clear bQ
                go_wp2_with fail
                go_roundw
                case rel => exact ⟨q + 1, by omega, by first | rfl | (rw [WQ.out]), HBQ.out⟩
                case measure => (try rw [WQ.out]); simp only [intOf, Int.toNat_natCast]; omega
              · have HKZ := Lib.hid (show z.kind = 2 from hkk.trans hkd)
                have NV : Hid (Calls Try.prog 16 #[.pointer (some ⟨X, 0, none⟩), .string rc.id] wr fun e w' => e = .returned (.tuple #[.agg #[.int .u64 (zc.ver : Int), .int .u64 (zc.dl : Int), .bool false, .int .i64 zz, .int .i64 (jd : Int), .int .i64 (jm : Int)], .bool true]) ∧ Below wr.heap.size wr w') := Lib.hid (by
                  have h := INewest_val wr X bn bp 40 40 _ _ rc.id IX2.out (by have := HSZ.out; omega)
                  rw [hN, show (some (zc.ent (plc jj))).getD Ent.zero = zc.ent (plc jj) from rfl, show (some (zc.ent (plc jj))).isSome = true from rfl, show (zc.ent (plc jj)).row = (#[.int .u64 (zc.ver : Int), .int .u64 (zc.dl : Int), .bool (decide (zc.kind = 1)), .int .i64 (31 + (zc.id.size : Int) + (zc.va.size : Int)), .int .i64 ((jj / 4 : Nat) : Int), .int .i64 ((jj % 4 : Nat) : Int)] : Array Value) from rfl, ← HZZ.out, ← HJD.out, ← HJM.out, show decide (zc.kind = 1) = false from by rw [hkd]; rfl] at h
                  exact h)
                clear hN
                go_wp2_with fail
                refine NV.out.mono ?_; rintro e w6 ⟨rfl, hb⟩
                obtain ⟨w7, hw7⟩ : ∃ W, W = w6.alloc (.cells #[.int .u64 (zc.ver : Int), .int .u64 (zc.dl : Int), .bool false, .int .i64 zz, .int .i64 (jd : Int), .int .i64 (jm : Int)] (49 : Nat)) := ⟨_, rfl⟩
                have b7 : Below wr.heap.size wr w7 := stepR hb (by rw [hw7]; exact (Below.refl _ _).alloc (Nat.le_refl _) _)
                have rid7 : w7.cell? ⟨w2.heap.size, 5, none⟩ = some (.string rc.id) := (b7.cell (lt_of_cellR rid)).trans rid
                have ROW7 : Hid (w7.heap[w6.heap.size]? = some (.cells #[.int .u64 (zc.ver : Int), .int .u64 (zc.dl : Int), .bool false, .int .i64 zz, .int .i64 (jd : Int), .int .i64 (jm : Int)] (49 : Nat) (0, 0))) := Lib.hid (by rw [hw7]; exact heap_alloc_new _ _)
                have HW7 := Lib.hid hw7
                have HB7 := Lib.hid (stepR HBI.out b7)
                have IX7 := Lib.hid (IX2.out.below b7)
                have OV := Lib.hid (IOthers_val w7 X bn bp 40 40 _ _ rc.id (-1) IX7.out (by omega))
                have W1_ := Lib.hid (show wrap64 (jd : Int) = (jd : Int) from IntWalk.wrap64_in _ (by have := HJD.out; omega))
                have W2_ := Lib.hid (show wrap64 (jm : Int) = (jm : Int) from IntWalk.wrap64_in _ (by have := HJM.out; omega))
                clear hb b7 rid NV
                rw [hw7] at rid7
                clear hw7
                go_wp2_with fail
                rw [← HW7.out]
                refine OV.out.mono ?_; rintro e w8 ⟨⟨c, rfl, hs⟩, hb⟩
                have hc : c = (manyL L rc.id L.length : Int) := (hs _ QEN.out).trans (many_sum _ _ (Nat.le_refl _))
                subst hc
                have HB8 := Lib.hid (stepR HB7.out hb)
                have zh := fun j u hu => ((stepR BB1.out (stepR HB3.out HB8.out)).cell (p := ⟨b, off + jj * 7 + j, none⟩) (lt_of_cellR (hcz j u hu))).trans (hcz j u hu)
                have z0 := cell_regrown (show w8.cell? ⟨b, off + jj * 7, none⟩ = some (.int .u64 (z.lsn : Int)) from ((Below.refl w8.heap.size w8).cell (p := ⟨b, off + jj * 7, none⟩) (lt_of_cellR (zh 0 _ rfl))).trans (zh 0 _ rfl))
                have z1 := cell_regrown (show w8.cell? ⟨b, off + jj * 7 + 1, none⟩ = some (.int .u32 (z.ep : Int)) from ((Below.refl w8.heap.size w8).cell (p := ⟨b, off + jj * 7 + 1, none⟩) (lt_of_cellR (zh 1 _ rfl))).trans (zh 1 _ rfl))
                have z2 := cell_regrown (show w8.cell? ⟨b, off + jj * 7 + 2, none⟩ = some (.int .i64 z.kind) from ((Below.refl w8.heap.size w8).cell (p := ⟨b, off + jj * 7 + 2, none⟩) (lt_of_cellR (zh 2 _ rfl))).trans (zh 2 _ rfl))
                have z3 := cell_regrown (show w8.cell? ⟨b, off + jj * 7 + 3, none⟩ = some (.int .u64 (z.ver : Int)) from ((Below.refl w8.heap.size w8).cell (p := ⟨b, off + jj * 7 + 3, none⟩) (lt_of_cellR (zh 3 _ rfl))).trans (zh 3 _ rfl))
                have z4 := cell_regrown (show w8.cell? ⟨b, off + jj * 7 + 4, none⟩ = some (.int .u64 (z.dl : Int)) from ((Below.refl w8.heap.size w8).cell (p := ⟨b, off + jj * 7 + 4, none⟩) (lt_of_cellR (zh 4 _ rfl))).trans (zh 4 _ rfl))
                have z5 := cell_regrown (show w8.cell? ⟨b, off + jj * 7 + 5, none⟩ = some (.string z.id) from ((Below.refl w8.heap.size w8).cell (p := ⟨b, off + jj * 7 + 5, none⟩) (lt_of_cellR (zh 5 _ rfl))).trans (zh 5 _ rfl))
                have z6 := cell_regrown (show w8.cell? ⟨b, off + jj * 7 + 6, none⟩ = some (.string z.va) from ((Below.refl w8.heap.size w8).cell (p := ⟨b, off + jj * 7 + 6, none⟩) (lt_of_cellR (zh 6 _ rfl))).trans (zh 6 _ rfl))
                have row8 := (hb.block _ (lt_of_rowR ROW7.out)).trans ROW7.out
                have e0 := cell_regrown (show w8.cell? ⟨w6.heap.size, 0, none⟩ = some (.int .u64 (zc.ver : Int)) from (cell_of_row _ _ 0 _ _ _ row8).trans rfl)
                have e2 := cell_regrown (show w8.cell? ⟨w6.heap.size, 2, none⟩ = some (.bool false) from (cell_of_row _ _ 2 _ _ _ row8).trans rfl)
                have e4 := cell_regrown (show w8.cell? ⟨w6.heap.size, 4, none⟩ = some (.int .i64 (jd : Int)) from (cell_of_row _ _ 4 _ _ _ row8).trans rfl)
                have e5 := cell_regrown (show w8.cell? ⟨w6.heap.size, 5, none⟩ = some (.int .i64 (jm : Int)) from (cell_of_row _ _ 5 _ _ _ row8).trans rfl)
                have d3 : wrap64 (Int.tdiv (jj : Int) 4) = (jd : Int) := by rw [tdiv4 jj, ← HJD.out]; exact W1_.out
                have d4 : wrap64 (Int.tmod (jj : Int) 4) = (jm : Int) := by rw [tmod4 jj, ← HJM.out]; exact W2_.out
                have d5 : ((jd : Int) = (jj : Int) / 4) = True := eq_true (by have := HJD.out; omega)
                have d6 : ((jm : Int) = (jj : Int) % 4) = True := eq_true (by have := HJM.out; omega)
                clear hs hb rid7 row8 zh hcz hkk hkd
                go_wp2_with fail
                refine Loose.wp_region_quiet_fast (by kernel_rfl) (by kernel_rfl) ?_
                (try simp only [List.append_eq, List.cons_append, List.nil_append])
                go_big_quiet_step (fail)
                go_big_quiet_step (fail)
                go_big_quiet_step (fail)
                go_big_quiet_step (fail)
                go_big_quiet_step (fail)
                go_big_quiet_step (fail)
                go_big_quiet_step (fail)
                go_big_quiet_step (fail)
                go_big_quiet_step (fail)
                go_big_quiet_step (fail)
                clear d3 d4 d5 d6 e4 e5
                repeat (go_big_quiet_step (fail))
                go_big_quiet_step ((go_at_call 19; exact Calls.regrown_of (cz _)))
                go_big_quiet_step (fail)
                go_big_quiet_step (fail)
                have kz := HKZ.out
                repeat (go_big_quiet_step (fail))
                refine wpQuiet_nil ?_
                intro _ hw'
                obtain ⟨⟨dq, osq⟩, hw''⟩ := hw'
                subst hw''
                clear z0 z1 z2 z3 z4 z5 z6 e0 e2 kz
                have bQ := below_regrown w8 dq osq
                have HBQ := Lib.hid (stepR HB3.out (stepR HB8.out bQ))
                clear bQ
                go_wp2_with fail
                go_roundw
                case rel => exact ⟨q + 1, by omega, by first | rfl | (rw [WQ.out]), HBQ.out⟩
                case measure => (try rw [WQ.out]); simp only [intOf, Int.toNat_natCast]; omega
theorem IndexNewest_walk (v0 : Value) (w : World) (o0 : Row.Opn Try.prog w 41 v0) :
    Calls Try.prog 5 #[v0] w fun e w' => e = .returned (.bool true) ∧ Below w.heap.size w w' := by
  obtain ⟨l, h1, h2, h3⟩ := open_recs o0
  exact newest_main l v0 w h1 h3
end Go.Proofs.Ythpompgcnemanaa.L
