/- The newest records. -/
import Derived.Test.YtlnhdbbhlcpkbaaRs
namespace Go.Proofs.Ytlnhdbbhlcpkbaa.G
open Go.RowKit Go.Maps Go.Sort Go.Shelf Go.Proofs
set_option linter.unusedVariables false
set_option linter.unusedSimpArgs false

/-- no slice at all, or one that lies somewhere -/
def SlV (v : Value) : Prop := v = .slice none 0 0 ∨ ∃ a n c, v = .slice (some a) n c
set_option maxRecDepth 100000 in
set_option maxHeartbeats 2000000 in
theorem Sorted_val2 (b n : Nat) (acc : List Rec) (w W : World) (hW : W = w.alloc (.cells #[.map (some b)] 52)) (hm : MapIs w b n (look acc)) (hs : Srt acc) (hn : n ≤ 1000000) :
    Calls Try.prog 23 #[.func (.func 33) #[] #[.pointer (some ⟨w.heap.size, 0, none⟩)], .func (.func 25) #[] #[]] W fun e w' => (∃ v, e = .returned v ∧ LR 7 encR w' v acc ∧ SlV v) ∧ Below W.heap.size W w' := by
  have bW : Below w.heap.size w W := by rw [hW]; exact (Below.refl _ w).alloc (Nat.le_refl _) _
  have hm2 := hm.below bW
  obtain ⟨D, hown, hf⟩ := hm2
  have hsz := hown.size_le
  have hnw : W.heap[w.heap.size]? = some (.cells #[.map (some b)] 52 (0, 0)) := by rw [hW]; exact heap_alloc_new w _
  have hc := Collect_val w.heap.size b n D W (lt_of_rowR hnw) ((cell_of_row _ _ 0 _ _ _ hnw).trans rfl) hown (by omega)
  have va := fun xs (hx : AllR D xs) => vals_are hown hf hs hx
  have HC := Lib.hid hc
  have VA := Lib.hid va
  have HS := Lib.hid hs
  clear hc va bW hnw hown hf hm hs hW hsz
  go_enter Try.func23, Try.ntmps23
  go_wp2_with fail
  refine HC.out.mono ?_; rintro e w1 ⟨⟨v, xs, rfl, hx, hrow⟩, hb⟩
  obtain ⟨h1, h2, h3⟩ := VA.out xs hx
  rcases hrow.2 with ⟨rfl, h0⟩ | ⟨g, cap, cur, rfl, hg0, hg, hcap, hmax, hcs, htk⟩
  · have hxs : xs = [] := List.length_eq_zero_iff.1 h0
    subst hxs
    have hacc : acc = [] := List.eq_nil_iff_forall_not_mem.2 fun r hr => by have := (h2 r).2 hr; cases this
    have sf := AnyF.slices_SortFunc_none (P := Try.prog) { Try.sortRec with } none 0 (.func (.func 25) #[] #[]) w1
    change Calls Try.prog 32 _ _ _ at sf
    have SF := Lib.hid sf
    have HB := Lib.hid hb
    subst hacc
    clear sf hb hrow h1 h2 h3 hx HC VA
    go_wp2_with fail
    refine SF.out.mono ?_; rintro e w2 ⟨rfl, rfl⟩
    go_wp2_with fail
    go_ret
    exact ⟨⟨_, rfl, LR.nil _ _ _ _ _, Or.inl rfl⟩, HB.out⟩
  · have hH := holdsK_own (cap := cap) (base := 0) hg htk
    have sf := AnyQ.slices_SortFunc (P := Try.prog) Try.sortRec 7 aggR szR encR (fun _ => rfl) oneR cfR swoR 25 #[] g 0 cap xs.toArray w1 (enters_of Try.func25 (by kernel_rfl) rfl) (lays_R g 0 _ w1) hH (lt_of_rowR hg) (by simp; omega)
    change Calls Try.prog 32 _ _ _ at sf
    rw [show xs.toArray.size = xs.length by simp] at sf
    have key := fun d' (hp : PermIn 0 xs.length xs.toArray d') (ho : SortedIn (ltOf cfR) 0 xs.length d') => sorted_acc HS.out h1 h2 (by simpa using hp) (by simpa using ho)
    have SF := Lib.hid sf
    have HB := Lib.hid hb
    have HH := Lib.hid hH
    have HG := Lib.hid hg
    have KEY := Lib.hid key
    have HCP := Lib.hid hcap
    have HG0 := Lib.hid hg0
    clear sf hb hrow h1 h2 h3 hx HC VA hH hg htk hcs key hcap hg0 hmax
    go_wp2_with fail
    refine SF.out.mono ?_; rintro e w2 ⟨rfl, d', q, os, hp, ho, rfl⟩
    have hd := KEY.out d' hp ho
    have hz : d'.size = xs.length := by have := hp.1; simpa using this
    have hl := lr_holdsK (cap := cap) (holdsK_sortWorldK_c encR 7 w1 g 0 xs.toArray d' q os HH.out (lt_of_rowR HG.out) (by simpa using hz)) (by rw [hz]; exact HCP.out)
    rw [hd, hz] at hl
    have hbb : Below W.heap.size W (sortWorldK encR 7 w1 g 0 q d' os) := HB.out.grown (grown_sortK d') HB.out.size (fun k e => by cases e; exact HG0.out)
    have HL := Lib.hid hl
    have HBB := Lib.hid hbb
    clear hd hz hl hbb hp ho
    go_wp2_with fail
    go_ret
    exact ⟨⟨_, rfl, HL.out, Or.inr ⟨_, _, _, rfl⟩⟩, HBB.out⟩
theorem upd_self {f : ByteArray → Option Rec} {k : ByteArray} {s : Option Rec} (h : f k = s) : upd f k s = f := by
  funext x
  unfold upd
  split
  · rename_i e; rw [e, h]
  · rfl
theorem wrR (j : Nat) (h : j < 4000000) : wrap64 ((j : Int) + 1) = ((j + 1 : Nat) : Int) := IntWalk.wrap64_in _ (by omega)
set_option maxRecDepth 100000 in
set_option maxHeartbeats 4000000 in
theorem Newest_val2 (l : List Rec) (v : Value) (w : World) (hl : l.length ≤ 1000000) (hk : ∀ r ∈ l, r.Kind) (h : LR 7 encR w v l) :
    Calls Try.prog 12 #[v] w fun e w' => (∃ u, e = .returned u ∧ LR 7 encR w' u (newL l) ∧ SlV u) ∧ Below w.heap.size w w' := by
  have hmk := @run_makeMap Try.prog
  obtain ⟨oa, cap, rfl, hcap, AT⟩ := h
  obtain ⟨n, hn⟩ : ∃ n, n = l.length := ⟨_, rfl⟩
  rw [← hn]
  have HN := Lib.hid hn
  have N6 : n ≤ 1000000 := by omega
  have AT := Lib.hid AT
  have HK := Lib.hid hk
  have m0 : MapIs (w.alloc (.map #[] 0)) w.heap.size 0 (look (newL (l.take 0))) := MapIs.made w
  have M0 := Lib.hid m0
  have hb0 := (Below.refl w.heap.size w).alloc (Nat.le_refl _) (.map #[] 0)
  have B0 := Lib.hid hb0
  clear hn hk hl m0 hb0 hcap
  go_enter Try.func12, Try.ntmps12
  go_wp2_with fail
  go_loopw [11] (fun i wr => ∃ q : Nat, q ≤ n ∧ i = .int .i64 q ∧ MapIs wr w.heap.size q (look (newL (l.take q))) ∧ Below w.heap.size w wr) (fun i _ => n - (intOf i).toNat)
  case atStart => exact ⟨0, by omega, rfl, M0.out, B0.out⟩
  case round =>
    obtain ⟨q, hq, rfl, hm, hbl⟩ := hrel
    have HM := Lib.hid hm
    have HB := Lib.hid hbl
    clear hm hbl
    by_cases hlt : q < n
    · have hql : q < l.length := by have := HN.out; omega
      have hkn : (q : Int) < (n : Int) := by omega
      obtain ⟨b, off, hoa, hc⟩ := AT.out q hql
      have kr := HK.out l[q] (List.getElem_mem hql)
      have stp : newL (l.take (q + 1)) = stepL (newL (l.take q)) l[q] := by rw [List.take_succ_eq_append_getElem hql, newL_snoc]
      obtain ⟨r, hr⟩ : ∃ r, r = l[q] := ⟨_, rfl⟩
      rw [← hr] at hc kr stp
      obtain ⟨acc, hacc⟩ : ∃ a, a = newL (l.take q) := ⟨_, rfl⟩
      have hs : Srt acc := by rw [hacc]; exact newL_srt _
      rw [← hacc] at HM stp
      have CE := fun j u hu => ((HB.out.cell (p := ⟨b, off + q * 7 + j, none⟩) (lt_of_cellR (hc j u hu))).trans (hc j u hu))
      have s0 : wr.cell? ⟨b, off + q * 7, none⟩ = some (.int .u64 r.lsn) := CE 0 (.int .u64 r.lsn) rfl
      have s1 : wr.cell? ⟨b, off + q * 7 + 1, none⟩ = some (.int .u32 r.ep) := CE 1 (.int .u32 r.ep) rfl
      have s2 : wr.cell? ⟨b, off + q * 7 + 2, none⟩ = some (.int .i64 r.kind) := CE 2 (.int .i64 r.kind) rfl
      have s3 : wr.cell? ⟨b, off + q * 7 + 3, none⟩ = some (.int .u64 r.ver) := CE 3 (.int .u64 r.ver) rfl
      have s4 : wr.cell? ⟨b, off + q * 7 + 4, none⟩ = some (.int .u64 r.dl) := CE 4 (.int .u64 r.dl) rfl
      have s5 : wr.cell? ⟨b, off + q * 7 + 5, none⟩ = some (.string r.id) := CE 5 (.string r.id) rfl
      have s6 : wr.cell? ⟨b, off + q * 7 + 6, none⟩ = some (.string r.va) := CE 6 (.string r.va) rfl
      have n1 := heap_alloc_new wr (.cells #[.int .u64 r.lsn, .int .u32 r.ep, .int .i64 r.kind, .int .u64 r.ver, .int .u64 r.dl, .string r.id, .string r.va] 42)
      have b1 : Below wr.heap.size wr (wr.alloc (.cells #[.int .u64 r.lsn, .int .u32 r.ep, .int .i64 r.kind, .int .u64 r.ver, .int .u64 r.dl, .string r.id, .string r.va] 42)) := (Below.refl _ _).alloc (Nat.le_refl _) _
      have m1 := HM.out.below b1
      have WJ := Lib.hid (wrR q (by omega))
      have STP := Lib.hid stp
      have SR := Lib.hid hs
      have KR := Lib.hid kr
      have N1 := Lib.hid n1
      have B1 := Lib.hid b1
      have M1 := Lib.hid m1
      subst hoa
      clear hc kr stp hr hacc hs CE n1 b1 m1
      have c0 := (cell_of_row _ _ 0 _ _ _ N1.out).trans (show _ = some (.int .u64 r.lsn) from rfl)
      have c1 := (cell_of_row _ _ 1 _ _ _ N1.out).trans (show _ = some (.int .u32 r.ep) from rfl)
      have c2 := (cell_of_row _ _ 2 _ _ _ N1.out).trans (show _ = some (.int .i64 r.kind) from rfl)
      have c3 := (cell_of_row _ _ 3 _ _ _ N1.out).trans (show _ = some (.int .u64 r.ver) from rfl)
      have c4 := (cell_of_row _ _ 4 _ _ _ N1.out).trans (show _ = some (.int .u64 r.dl) from rfl)
      have c5 := (cell_of_row _ _ 5 _ _ _ N1.out).trans (show _ = some (.string r.id) from rfl)
      have c6 := (cell_of_row _ _ 6 _ _ _ N1.out).trans (show _ = some (.string r.va) from rfl)
      by_cases hkind : r.kind = 1 ∨ r.kind = 2
      · have STEP : Hid (newL (l.take (q + 1)) = insR r acc) := Lib.hid (by rw [STP.out]; unfold stepL; rw [if_pos hkind])
        have LI := Lib.hid (look_ins r acc SR.out)
        have hlk := M1.out.look r.id KR.out.id
        obtain ⟨x, hx⟩ : ∃ x, x = (look acc r.id).getD Rec.zero := ⟨_, rfl⟩
        obtain ⟨z, hz⟩ : ∃ z, z = (look acc r.id).isSome := ⟨_, rfl⟩
        rw [← hx, ← hz] at hlk
        unfold Rec.row at hlk
        have n2 := heap_alloc_new (wr.alloc (.cells #[.int .u64 r.lsn, .int .u32 r.ep, .int .i64 r.kind, .int .u64 r.ver, .int .u64 r.dl, .string r.id, .string r.va] 42)) (.cells #[.int .u64 x.lsn, .int .u32 x.ep, .int .i64 x.kind, .int .u64 x.ver, .int .u64 x.dl, .string x.id, .string x.va] 42)
        have n3 := (heap_alloc_old (wr.alloc (.cells #[.int .u64 r.lsn, .int .u32 r.ep, .int .i64 r.kind, .int .u64 r.ver, .int .u64 r.dl, .string r.id, .string r.va] 42)) (.cells #[.int .u64 x.lsn, .int .u32 x.ep, .int .i64 x.kind, .int .u64 x.ver, .int .u64 x.dl, .string x.id, .string x.va] 42) (lt_of_rowR N1.out)).trans N1.out
        rw [alloc_sizeR] at n2
        have b2 : Below wr.heap.size wr ((wr.alloc (.cells #[.int .u64 r.lsn, .int .u32 r.ep, .int .i64 r.kind, .int .u64 r.ver, .int .u64 r.dl, .string r.id, .string r.va] 42)).alloc (.cells #[.int .u64 x.lsn, .int .u32 x.ep, .int .i64 x.kind, .int .u64 x.ver, .int .u64 x.dl, .string x.id, .string x.va] 42)) := B1.out.alloc (by rw [alloc_sizeR]; omega) _
        have m2 := HM.out.below b2
        obtain ⟨W3, hst, hm3, hg3, hs3⟩ := m2.store (by omega) r.id KR.out.id r
        unfold Rec.row at hst
        have hb3 : Below w.heap.size w W3 := (stepR HB.out b2).grown hg3 (Nat.le_trans HB.out.size b2.size) (fun k e => by cases e; exact Nat.le_refl _)
        have hb2 := stepR HB.out b2
        have d0 := (cell_of_row _ _ 0 _ _ _ n3).trans (show _ = some (.int .u64 r.lsn) from rfl)
        have d1 := (cell_of_row _ _ 1 _ _ _ n3).trans (show _ = some (.int .u32 r.ep) from rfl)
        have d2 := (cell_of_row _ _ 2 _ _ _ n3).trans (show _ = some (.int .i64 r.kind) from rfl)
        have d3 := (cell_of_row _ _ 3 _ _ _ n3).trans (show _ = some (.int .u64 r.ver) from rfl)
        have d4 := (cell_of_row _ _ 4 _ _ _ n3).trans (show _ = some (.int .u64 r.dl) from rfl)
        have d5 := (cell_of_row _ _ 5 _ _ _ n3).trans (show _ = some (.string r.id) from rfl)
        have d6 := (cell_of_row _ _ 6 _ _ _ n3).trans (show _ = some (.string r.va) from rfl)
        have e3 := (cell_of_row _ _ 3 _ _ _ n2).trans (show _ = some (.int .u64 (x.ver : Int)) from rfl)
        have HST := Lib.hid hst
        have M2 := Lib.hid m2
        have HX := Lib.hid hx
        have HZ := Lib.hid hz
        have HM3' := Lib.hid hm3
        have HB3' := Lib.hid hb3
        have HB2 := Lib.hid hb2
        clear n2 n3 b2 m2 hst hm3 hg3 hs3 hb3 hb2 hx hz
        have k1 : ((r.kind == 1) = false ∧ (r.kind == 2) = true ∨ (r.kind == 1) = true) := by
          rcases hkind with h | h
          · right; rw [h]; rfl
          · left; rw [h]; exact ⟨rfl, rfl⟩
        have fin1 : z = false ∨ x.ver ≤ r.ver → newer (look acc r.id) r = r := fun h => by
          unfold newer
          rw [HZ.out, HX.out] at h
          cases hq2 : look acc r.id with
          | none => rfl
          | some y => rw [hq2] at h; simp at h; simp only [if_pos h]
        have fin2 : ¬ (z = false ∨ x.ver ≤ r.ver) → look acc r.id = some (newer (look acc r.id) r) := fun h => by
          unfold newer
          rw [HZ.out, HX.out] at h
          cases hq2 : look acc r.id with
          | none => rw [hq2] at h; simp at h
          | some y => rw [hq2] at h; simp at h; simp only [if_neg (show ¬ y.ver ≤ r.ver by omega)]
        have F1 := Lib.hid fin1
        have F2 := Lib.hid fin2
        clear fin1 fin2 k1
        have HLK := Lib.hid hlk
        clear hlk
        have zz : z = false ∨ z = true := by cases z; exact Or.inl rfl; exact Or.inr rfl
        have kk : r.kind = 1 ∨ r.kind = 2 := hkind
        clear hkind
        rcases kk with hkd | hkd
        · have a1 : (r.kind == 1) = true := by rw [hkd]; rfl
          have b1 : (r.kind != 1) = false := by rw [hkd]; rfl
          have e1 : (r.kind = 1) = True := by rw [hkd]; exact eq_true rfl
          have a2 : (r.kind == 2) = false := by rw [hkd]; rfl
          have b2 : (r.kind != 2) = true := by rw [hkd]; rfl
          have e2 : (r.kind = 2) = False := by rw [hkd]; exact eq_false (by decide)
          clear hkd
          rcases zz with hz | hz
          · have hc : z = false ∨ x.ver ≤ r.ver := Or.inl hz
            subst hz
            have HM3 : Hid (MapIs W3 w.heap.size (q + 1) (look (newL (l.take (q + 1))))) := Lib.hid (by rw [STEP.out, LI.out, F1.out hc]; exact HM3'.out)
            have HB3 := HB3'
            have hst := HST.out
            have hlk := HLK.out
            clear hc
            go_wp2_with fail
            go_roundw
            case rel => exact ⟨q + 1, by omega, by first | rfl | (rw [WJ.out]), HM3.out, HB3.out⟩
            case measure => (try rw [WJ.out]); simp only [intOf, Int.toNat_natCast]; omega
          · by_cases hv : x.ver ≤ r.ver
            · have hc : z = false ∨ x.ver ≤ r.ver := Or.inr hv
              subst hz
              have v1 : (x.ver ≤ r.ver) = True := eq_true hv
              clear hv
              have HM3 : Hid (MapIs W3 w.heap.size (q + 1) (look (newL (l.take (q + 1))))) := Lib.hid (by rw [STEP.out, LI.out, F1.out hc]; exact HM3'.out)
              have HB3 := HB3'
              have hst := HST.out
              have hlk := HLK.out
              clear hc
              go_wp2_with fail
              go_roundw
              case rel => exact ⟨q + 1, by omega, by first | rfl | (rw [WJ.out]), HM3.out, HB3.out⟩
              case measure => (try rw [WJ.out]); simp only [intOf, Int.toNat_natCast]; omega
            · have hc : ¬ (z = false ∨ x.ver ≤ r.ver) := fun h => by
                rcases h with h | h
                · rw [hz] at h; cases h
                · exact hv h
              subst hz
              have v1 : (x.ver ≤ r.ver) = False := eq_false hv
              clear hv
              have HM3 : Hid (MapIs ((wr.alloc (.cells #[.int .u64 r.lsn, .int .u32 r.ep, .int .i64 r.kind, .int .u64 r.ver, .int .u64 r.dl, .string r.id, .string r.va] 42)).alloc (.cells #[.int .u64 x.lsn, .int .u32 x.ep, .int .i64 x.kind, .int .u64 x.ver, .int .u64 x.dl, .string x.id, .string x.va] 42)) w.heap.size (q + 1) (look (newL (l.take (q + 1))))) := Lib.hid (by rw [STEP.out, LI.out, upd_self (F2.out hc)]; exact M2.out.mono (by omega))
              have HB3 := HB2
              have hlk := HLK.out
              clear hc
              go_wp2_with fail
              go_roundw
              case rel => exact ⟨q + 1, by omega, by first | rfl | (rw [WJ.out]), HM3.out, HB3.out⟩
              case measure => (try rw [WJ.out]); simp only [intOf, Int.toNat_natCast]; omega
        · have a1 : (r.kind == 1) = false := by rw [hkd]; rfl
          have b1 : (r.kind != 1) = true := by rw [hkd]; rfl
          have e1 : (r.kind = 1) = False := by rw [hkd]; exact eq_false (by decide)
          have a2 : (r.kind == 2) = true := by rw [hkd]; rfl
          have b2 : (r.kind != 2) = false := by rw [hkd]; rfl
          have e2 : (r.kind = 2) = True := by rw [hkd]; exact eq_true rfl
          clear hkd
          rcases zz with hz | hz
          · have hc : z = false ∨ x.ver ≤ r.ver := Or.inl hz
            subst hz
            have HM3 : Hid (MapIs W3 w.heap.size (q + 1) (look (newL (l.take (q + 1))))) := Lib.hid (by rw [STEP.out, LI.out, F1.out hc]; exact HM3'.out)
            have HB3 := HB3'
            have hst := HST.out
            have hlk := HLK.out
            clear hc
            go_wp2_with fail
            go_roundw
            case rel => exact ⟨q + 1, by omega, by first | rfl | (rw [WJ.out]), HM3.out, HB3.out⟩
            case measure => (try rw [WJ.out]); simp only [intOf, Int.toNat_natCast]; omega
          · by_cases hv : x.ver ≤ r.ver
            · have hc : z = false ∨ x.ver ≤ r.ver := Or.inr hv
              subst hz
              have v1 : (x.ver ≤ r.ver) = True := eq_true hv
              clear hv
              have HM3 : Hid (MapIs W3 w.heap.size (q + 1) (look (newL (l.take (q + 1))))) := Lib.hid (by rw [STEP.out, LI.out, F1.out hc]; exact HM3'.out)
              have HB3 := HB3'
              have hst := HST.out
              have hlk := HLK.out
              clear hc
              go_wp2_with fail
              go_roundw
              case rel => exact ⟨q + 1, by omega, by first | rfl | (rw [WJ.out]), HM3.out, HB3.out⟩
              case measure => (try rw [WJ.out]); simp only [intOf, Int.toNat_natCast]; omega
            · have hc : ¬ (z = false ∨ x.ver ≤ r.ver) := fun h => by
                rcases h with h | h
                · rw [hz] at h; cases h
                · exact hv h
              subst hz
              have v1 : (x.ver ≤ r.ver) = False := eq_false hv
              clear hv
              have HM3 : Hid (MapIs ((wr.alloc (.cells #[.int .u64 r.lsn, .int .u32 r.ep, .int .i64 r.kind, .int .u64 r.ver, .int .u64 r.dl, .string r.id, .string r.va] 42)).alloc (.cells #[.int .u64 x.lsn, .int .u32 x.ep, .int .i64 x.kind, .int .u64 x.ver, .int .u64 x.dl, .string x.id, .string x.va] 42)) w.heap.size (q + 1) (look (newL (l.take (q + 1))))) := Lib.hid (by rw [STEP.out, LI.out, upd_self (F2.out hc)]; exact M2.out.mono (by omega))
              have HB3 := HB2
              have hlk := HLK.out
              clear hc
              go_wp2_with fail
              go_roundw
              case rel => exact ⟨q + 1, by omega, by first | rfl | (rw [WJ.out]), HM3.out, HB3.out⟩
              case measure => (try rw [WJ.out]); simp only [intOf, Int.toNat_natCast]; omega
      · have STEP : Hid (newL (l.take (q + 1)) = acc) := Lib.hid (by rw [STP.out]; unfold stepL; rw [if_neg hkind])
        have g1 : (r.kind == 1) = false := beq_eq_false_iff_ne.2 (fun e => hkind (Or.inl e))
        have g2 : (r.kind == 2) = false := beq_eq_false_iff_ne.2 (fun e => hkind (Or.inr e))
        have g3 : (r.kind != 1) = true := bne_iff_ne.2 (fun e => hkind (Or.inl e))
        have g4 : (r.kind != 2) = true := bne_iff_ne.2 (fun e => hkind (Or.inr e))
        have g5 : (r.kind = 1) = False := eq_false (fun e => hkind (Or.inl e))
        have g6 : (r.kind = 2) = False := eq_false (fun e => hkind (Or.inr e))
        have HM3 : Hid (MapIs (wr.alloc (.cells #[.int .u64 r.lsn, .int .u32 r.ep, .int .i64 r.kind, .int .u64 r.ver, .int .u64 r.dl, .string r.id, .string r.va] 42)) w.heap.size (q + 1) (look acc)) := Lib.hid (M1.out.mono (by omega))
        have HB3 : Hid (Below w.heap.size w (wr.alloc (.cells #[.int .u64 r.lsn, .int .u32 r.ep, .int .i64 r.kind, .int .u64 r.ver, .int .u64 r.dl, .string r.id, .string r.va] 42))) := Lib.hid (stepR HB.out B1.out)
        clear hkind
        go_wp2_with fail
        go_roundw
        case rel => exact ⟨q + 1, by omega, by first | rfl | (rw [WJ.out]), by rw [STEP.out]; exact HM3.out, HB3.out⟩
        case measure => (try rw [WJ.out]); simp only [intOf, Int.toNat_natCast]; omega
    · obtain rfl : q = n := by omega
      have hall : l.take q = l := List.take_of_length_le (by have := HN.out; omega)
      rw [hall] at HM
      have vv := Values_val w.heap.size wr
      have sv := Sorted_val2 w.heap.size q (newL l) wr _ rfl HM.out (newL_srt l) (by omega)
      have VV := Lib.hid vv
      have SV := Lib.hid sv
      clear vv sv hall hlt
      go_wp2_with fail
      refine VV.out.mono ?_; rintro e w1 ⟨rfl, rfl⟩
      go_wp2_with fail
      refine SV.out.mono ?_; rintro e w2 ⟨⟨u, rfl, hu, hsl⟩, hb2⟩
      have HSL := Lib.hid hsl
      have HU := Lib.hid hu
      have BE := Lib.hid (stepR HB.out (stepR ((Below.refl wr.heap.size wr).alloc (Nat.le_refl _) _) hb2))
      clear hu hb2 hsl
      go_wp2_with fail
      go_ret
      exact ⟨⟨_, rfl, HU.out, HSL.out⟩, BE.out⟩
theorem Newest_val (l : List Rec) (v : Value) (w : World) (hl : l.length ≤ 1000000) (hk : ∀ r ∈ l, r.Kind) (h : LR 7 encR w v l) :
    Calls Try.prog 12 #[v] w fun e w' => (∃ u, e = .returned u ∧ LR 7 encR w' u (newL l)) ∧ Below w.heap.size w w' :=
  (Newest_val2 l v w hl hk h).mono fun e w' ⟨⟨u, h1, h2, _⟩, h3⟩ => ⟨⟨u, h1, h2⟩, h3⟩
end Go.Proofs.Ytlnhdbbhlcpkbaa.G
