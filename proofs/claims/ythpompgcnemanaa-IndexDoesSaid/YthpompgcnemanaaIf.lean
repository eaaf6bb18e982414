/- An index that is filled with records, one at each place of segments of 4. -/
import Derived.Test.YthpompgcnemanaaIo
namespace Go.Proofs.Ythpompgcnemanaa.G
open Go.RowKit Go.Maps Go.Proofs Go.Proofs.Ythpompgcnemanaa.WordPlain Go.Proofs.Ythpompgcnemanaa.Loose
set_option linter.unusedVariables false
set_option linter.unusedSimpArgs false

def cutsR (l : List Rec) (M : Nat) : List Rec := (l.map Rec.cut).take M
theorem cutsR_len (l : List Rec) (M : Nat) : (cutsR l M).length ≤ M := by unfold cutsR; rw [List.length_take]; omega
theorem cutsR_size (l : List Rec) (M : Nat) : ∀ r ∈ cutsR l M, r.id.size ≤ 80 ∧ r.va.size ≤ 80 := by
  intro a ha
  obtain ⟨b, hb, rfl⟩ := List.mem_map.1 (List.mem_of_mem_take ha)
  exact ⟨by show (b.id.extract 0 _).size ≤ _; rw [ByteArray.size_extract]; omega, by show (b.va.extract 0 _).size ≤ _; rw [ByteArray.size_extract]; omega⟩
theorem cutsR_at {l : List Rec} {M k : Nat} (h : k < (cutsR l M).length) : k < l.length ∧ k < M ∧ ∀ h1 : k < l.length, (cutsR l M)[k] = l[k].cut := by
  have h2 : k < min M l.length := by unfold cutsR at h; rw [List.length_take, List.length_map] at h; exact h
  refine ⟨by omega, by omega, fun h1 => ?_⟩
  have h3 : (cutsR l M)[k]? = some l[k].cut := by
    unfold cutsR
    rw [List.getElem?_take_of_lt (by omega), List.getElem?_map, List.getElem?_eq_getElem h1]; rfl
  rw [List.getElem?_eq_getElem h] at h3
  exact Option.some.inj h3
/-- the place of a record -/
def plc (k : Nat) : Plc := (((k / 4 : Nat) : Int), ((k % 4 : Nat) : Int))
theorem plc_inj {j k : Nat} (h : plc j = plc k) : j = k := by
  have h1 : ((j / 4 : Nat) : Int) = ((k / 4 : Nat) : Int) := congrArg Prod.fst h
  have h2 : ((j % 4 : Nat) : Int) = ((k % 4 : Nat) : Int) := congrArg Prod.snd h
  omega
theorem wf_small {z : Int} (h1 : -1000000 ≤ z) (h2 : z ≤ 1000000) : (Lit.int .i64 z).wf = true := by
  simp [Lit.wf, IntKind.min, IntKind.max, IntKind.bits, IntKind.signed]
  omega
theorem plc_ok {k : Nat} (h : k ≤ 1000000) : kP.ok (plc k) := ⟨wf_small (by show _ ≤ ((k / 4 : Nat) : Int); omega) (by show ((k / 4 : Nat) : Int) ≤ _; omega), wf_small (by show _ ≤ ((k % 4 : Nat) : Int); omega) (by show ((k % 4 : Nat) : Int) ≤ _; omega)⟩
def fil (L : List Rec) : Nat → (ByteArray → Option Ent) × (Plc → Option ByteArray)
  | 0 => (fun _ => none, fun _ => none)
  | q + 1 => match L[q]? with
    | some r => (addN (fil L q).1 (fil L q).2 r (plc q), addQ (fil L q).2 r (plc q))
    | none => fil L q
theorem fil_step {L : List Rec} {q : Nat} (h : q < L.length) : fil L (q + 1) = (addN (fil L q).1 (fil L q).2 L[q] (plc q), addQ (fil L q).2 L[q] (plc q)) := by
  show (match L[q]? with | some r => (addN (fil L q).1 (fil L q).2 r (plc q), addQ (fil L q).2 r (plc q)) | none => fil L q) = _
  rw [List.getElem?_eq_getElem h]
theorem tdiv4 (q : Nat) : Int.tdiv (q : Int) 4 = ((q / 4 : Nat) : Int) := (Int.ofNat_tdiv q 4).symm
theorem tmod4 (q : Nat) : Int.tmod (q : Int) 4 = ((q % 4 : Nat) : Int) := (Int.ofNat_tmod q 4).symm
set_option maxRecDepth 100000 in
set_option maxHeartbeats 2000000 in
theorem filled_val (w : World) (v : Value) (l : List Rec) (h : LR 7 encR w v l) (hl : l.length ≤ 140737488351232) :
    Calls Try.prog 12 #[v] w fun e w' => (∃ X bn bp, e = .returned (.pointer (some ⟨X, 0, none⟩)) ∧ Ix w' X bn bp 40 40 (fil (cutsR l 40) (cutsR l 40).length).1 (fil (cutsR l 40) (cutsR l 40).length).2 ∧ w.heap.size ≤ X ∧ w.heap.size ≤ bn ∧ w.heap.size ≤ bp) ∧ Below w.heap.size w w' := by
  obtain ⟨oa, cap, rfl, _, hx⟩ := h
  obtain ⟨n, hn⟩ : ∃ n, n = l.length := ⟨_, rfl⟩
  rw [← hn] at hl ⊢
  obtain ⟨L, hL⟩ : ∃ L, L = cutsR l 40 := ⟨_, rfl⟩
  rw [← hL]
  have HLL : Hid (L.length = min 40 n) := Lib.hid (by rw [hL, hn]; unfold cutsR; rw [List.length_take, List.length_map])
  have HLA := Lib.hid (show ∀ k (h1 : k < l.length) (h2 : k < L.length), L[k] = l[k].cut from fun k h1 h2 => by subst hL; exact (cutsR_at h2).2.2 h1)
  have HLS := Lib.hid (show ∀ r ∈ L, r.id.size ≤ 80 ∧ r.va.size ≤ 80 by rw [hL]; exact cutsR_size l 40)
  have AT := Lib.hid hx
  have HN := Lib.hid hn
  clear hx hn hL
  go_enter Try.func12, Try.ntmps12
  go_wp2_with fail
  refine (INew_val w).mono ?_; rintro e w1 ⟨⟨X, bn, bp, rfl, hix, hX, hbn, hbp⟩, hb⟩
  have IX1 := Lib.hid hix
  have BB1 := Lib.hid hb
  have LB := Lib.hid (show w.heap.size ≤ X ∧ w.heap.size ≤ bn ∧ w.heap.size ≤ bp from ⟨hX, hbn, hbp⟩)
  clear hix hX hbn hbp hb
  go_wp2_with fail
  go_loopw [4] (fun i wr => ∃ q : Nat, q ≤ L.length ∧ i = .int .i64 q ∧ Ix wr X bn bp q q (fil L q).1 (fil L q).2 ∧ Below w.heap.size w wr) (fun i _ => 40 - (intOf i).toNat)
  case atStart => exact ⟨0, by omega, rfl, IX1.out, BB1.out⟩
  case round =>
    obtain ⟨q, hq, rfl, hix, hbl⟩ := hrel
    have IX := Lib.hid hix
    have HB := Lib.hid hbl
    have hq40 : q ≤ 40 := by have := HLL.out; omega
    clear hix hbl
    by_cases hlt : q < n
    · have hkn : (q : Int) < (n : Int) := by omega
      by_cases h40 : q < 40
      · have hk40 : (q : Int) < 40 := by omega
        have hql : q < l.length := by have := HN.out; omega
        have hqL : q < L.length := by have := HLL.out; omega
        obtain ⟨b, off, hoa, hc⟩ := AT.out q hql
        have hcut := HLA.out q hql hqL
        have hsz := HLS.out _ (List.getElem_mem hqL)
        have hst := fil_step hqL
        obtain ⟨r, hr⟩ : ∃ r, r = l[q] := ⟨_, rfl⟩
        rw [← hr] at hc hcut
        obtain ⟨rc, hrc⟩ : ∃ r, r = L[q] := ⟨_, rfl⟩
        rw [← hrc] at hcut hst hsz
        have s0 : wr.cell? ⟨b, off + q * 7, none⟩ = some (.int .u64 (r.lsn : Int)) := (HB.out.cell (p := ⟨b, off + q * 7, none⟩) (lt_of_cellR (hc 0 _ rfl))).trans (hc 0 _ rfl)
        have s1 : wr.cell? ⟨b, off + q * 7 + 1, none⟩ = some (.int .u32 (r.ep : Int)) := (HB.out.cell (p := ⟨b, off + q * 7 + 1, none⟩) (lt_of_cellR (hc 1 _ rfl))).trans (hc 1 _ rfl)
        have s2 : wr.cell? ⟨b, off + q * 7 + 2, none⟩ = some (.int .i64 r.kind) := (HB.out.cell (p := ⟨b, off + q * 7 + 2, none⟩) (lt_of_cellR (hc 2 _ rfl))).trans (hc 2 _ rfl)
        have s3 : wr.cell? ⟨b, off + q * 7 + 3, none⟩ = some (.int .u64 (r.ver : Int)) := (HB.out.cell (p := ⟨b, off + q * 7 + 3, none⟩) (lt_of_cellR (hc 3 _ rfl))).trans (hc 3 _ rfl)
        have s4 : wr.cell? ⟨b, off + q * 7 + 4, none⟩ = some (.int .u64 (r.dl : Int)) := (HB.out.cell (p := ⟨b, off + q * 7 + 4, none⟩) (lt_of_cellR (hc 4 _ rfl))).trans (hc 4 _ rfl)
        have s5 : wr.cell? ⟨b, off + q * 7 + 5, none⟩ = some (.string r.id) := (HB.out.cell (p := ⟨b, off + q * 7 + 5, none⟩) (lt_of_cellR (hc 5 _ rfl))).trans (hc 5 _ rfl)
        have s6 : wr.cell? ⟨b, off + q * 7 + 6, none⟩ = some (.string r.va) := (HB.out.cell (p := ⟨b, off + q * 7 + 6, none⟩) (lt_of_cellR (hc 6 _ rfl))).trans (hc 6 _ rfl)
        have RF := Lib.hid (CutR_val r wr)
        rw [← hcut] at RF
        have HST := Lib.hid hst
        have HSZ := Lib.hid hsz
        have W1_ := Lib.hid (show wrap64 (((q / 4 : Nat) : Int)) = ((q / 4 : Nat) : Int) from IntWalk.wrap64_in _ (by omega))
        have W2_ := Lib.hid (show wrap64 (((q % 4 : Nat) : Int)) = ((q % 4 : Nat) : Int) from IntWalk.wrap64_in _ (by omega))
        have WJ := Lib.hid (wrI q (by omega))
        subst hoa
        clear hc hr hrc hcut hst hsz
        go_wp2_with fail
        refine RF.out.mono ?_; rintro e w2 ⟨rfl, hb⟩
        have a := IAdd_val w2 X bn bp q q _ _ rc (plc q) (IX.out.below hb) (by omega) (by omega) (plc_ok (by omega)) (by have := HSZ.out; omega) (by have := HSZ.out; omega)
        have AA := Lib.hid a
        have HB2 := Lib.hid (stepR HB.out hb)
        clear a hb s0 s1 s2 s3 s4 s5 s6
        have e1 := tdiv4 q
        have e2 := tmod4 q
        have w1_ := W1_.out
        have w2_ := W2_.out
        go_wp2_with fail
        refine AA.out.mono ?_; rintro e w3 ⟨rfl, hix, hmq⟩
        have IX3 : Hid (Ix w3 X bn bp (q + 1) (q + 1) (fil L (q + 1)).1 (fil L (q + 1)).2) := Lib.hid (by rw [HST.out]; exact hix)
        have HB3 := Lib.hid (HB2.out.trans (hmq.below LB.out.2.1 LB.out.2.2 HB2.out.size))
        clear hix hmq AA e1 e2 w1_ w2_
        go_wp2_with fail
        go_roundw
        case rel => exact ⟨q + 1, by omega, by first | rfl | (rw [WJ.out]), IX3.out, HB3.out⟩
        case measure => (try rw [WJ.out]); simp only [intOf, Int.toNat_natCast]; omega
      · have hk40 : ¬ (q : Int) < 40 := by omega
        have e : q = L.length := by have := HLL.out; omega
        have IX3 : Hid (Ix wr X bn bp 40 40 (fil L L.length).1 (fil L L.length).2) := Lib.hid (by rw [← e]; exact IX.out.mono (by omega) (by omega))
        clear e h40
        go_wp2_with fail
        go_ret
        exact ⟨⟨X, rfl, bn, bp, IX3.out, LB.out⟩, HB.out⟩
    · have hkn : ¬ (q : Int) < (n : Int) := by omega
      have e : q = L.length := by have := HLL.out; omega
      have IX3 : Hid (Ix wr X bn bp 40 40 (fil L L.length).1 (fil L L.length).2) := Lib.hid (by rw [← e]; exact IX.out.mono (by omega) (by omega))
      clear e hlt
      go_wp2_with fail
      go_ret
      exact ⟨⟨X, rfl, bn, bp, IX3.out, LB.out⟩, HB.out⟩
end Go.Proofs.Ythpompgcnemanaa.G
