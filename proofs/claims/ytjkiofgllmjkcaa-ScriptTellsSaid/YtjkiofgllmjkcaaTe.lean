/- Cuts lays its list anew; lists and truths under a store elsewhere. -/
import Derived.Test.YtjkiofgllmjkcaaSu
import Derived.Test.YtjkiofgllmjkcaaGLoose
import Derived.Test.YtjkiofgllmjkcaaGFast
import Derived.BigQuiet
namespace Go.Proofs.Ytjkiofgllmjkcaa.G
open Go.RowKit Go.Proofs.Ytjkiofgllmjkcaa.WordPlain
set_option linter.unusedVariables false
set_option linter.unusedSimpArgs false

/-- its block is no old one -/
def OwnA (w : World) (u : Value) : Prop := ∀ k, some k = u.ownBlock → w.heap.size ≤ k
set_option maxRecDepth 100000 in
set_option maxHeartbeats 4000000 in
theorem Cuts_some2 (l : List Ac) (n M b off cap : Nat) (w : World) (hn : n = l.length) (hM : M ≤ 1000) (hx : ∀ i (h : i < l.length), ∃ vk, Sb w vk l[i].keep ∧ AtC w b (off + i * 10) l[i] vk) :
    Calls Try.prog 8 #[.slice (some ⟨b, off, none⟩) n cap, .int .i64 (M : Int)] w fun e w' => (∃ u, e = .returned u ∧ SA w' u ((l.map Ac.cut).take M) ∧ OwnA w u) ∧ Below w.heap.size w w' := by
  have HX := Lib.hid hx
  have HN := Lib.hid hn
  clear hx hn
  obtain ⟨m, hm⟩ : ∃ m, m = l.map Ac.cut := ⟨_, rfl⟩
  have hml : m.length = l.length := by rw [hm, List.length_map]
  have HML := Lib.hid hml
  have HME := Lib.hid hm
  rw [← hm]
  clear hm hml
  have h0 : RJ w (w.alloc (.cells #[] 29)) m 0 (.slice (some ⟨w.heap.size, 0, none⟩) 0 0) [] :=
    ⟨⟨by simp [rows], Or.inr ⟨w.heap.size, 0, #[], rfl, Nat.le_refl _, heap_alloc_new _ _, Nat.le_refl _, by simp [maxLen], rfl, by simp [rows]⟩⟩, rfl, (fun i h h' => absurd h' (Nat.not_lt_zero _)), (Below.refl _ _).alloc (Nat.le_refl _) _⟩
  have H0 := Lib.hid h0
  clear h0
  go_enter Try.func8, Try.ntmps8
  go_wp2_with fail
  go_loopw [5, 6] (fun s i wr => ∃ (q : Nat) (vks : List Value) (lv : Value), q ≤ n ∧ q ≤ M ∧ i = .int .i64 q ∧ lv = s ∧ RJ w wr m q lv vks) (fun _ i _ => n - (intOf i).toNat)
  case atStart => exact ⟨0, [], _, by omega, by omega, rfl, rfl, H0.out⟩
  case round =>
    obtain ⟨q, vks, lv, hq, hqM, rfl, rfl, hri⟩ := hrel
    have HRI := Lib.hid hri
    clear hri H0
    by_cases hlt : q < n
    · by_cases hlM : q < M
      · have hql : q < l.length := by have := HN.out; omega
        have hkn : (q : Int) < (n : Int) := by omega
        have hkM : (q : Int) < (M : Int) := by omega
        obtain ⟨vk, sv, cs⟩ := HX.out q hql
        have cs := cs.below HRI.out.bel (Nat.le_refl _)
        obtain ⟨uk, su, RC⟩ := Cut_val l[q] vk w sv
        have hmq : q < m.length := by have := HML.out; omega
        have hae : m[q] = l[q].cut := by
          have := HME.out
          subst this
          rw [List.getElem_map]
        have RC := Lib.hid RC
        obtain ⟨a, ha⟩ : ∃ a, a = l[q] := ⟨_, rfl⟩
        obtain ⟨c, hc⟩ : ∃ c, c = l[q].cut := ⟨_, rfl⟩
        rw [← hc] at su hae
        rw [← ha] at cs sv RC
        rw [← ha] at hc
        have hcM := Lib.hid hae
        rw [← hc] at RC
        have HSU := Lib.hid su
        obtain ⟨oa, cap', rfl⟩ := sv.form
        obtain ⟨ob, capb, rfl⟩ := su.form
        obtain ⟨c0, c1, c2, c3, c4, c5, c6, c7, c8, c9⟩ := cs
        clear ha sv hc su hae
        go_wp2_with fail
        refine (RC.out _).mono ?_; rintro e w2 ⟨rfl, hb2⟩
        have hnw := heap_alloc_new w2 (.cells (c.row (.slice ob c.keep.length capb)) 29)
        have HNW := Lib.hid hnw
        have HB2 := Lib.hid hb2
        obtain ⟨ii, zz, i1, i2, i3, i4, i5⟩ := act_info
        have I1 := Lib.hid i1
        have I2 := Lib.hid i2
        have I3 := Lib.hid i3
        have I4 := Lib.hid i4
        have I5 := Lib.hid i5
        have hsz := hb2.size
        have hsz2 := HRI.out.bel.size
        clear c0 c1 c2 c3 c4 c5 c6 c7 c8 c9 hnw hb2 i1 i2 i3 i4 i5
        have hlen : (rows (m.take q) vks).length = q * 10 := HRI.out.own.1
        have HLEN := Lib.hid hlen
        clear hlen
        unfold Ac.row
        go_wp2_with (at_builtin; go_loud (refine wpList_append_lies _ rfl _ _ 22 rfl w.heap.size 29 ii zz 10 112 Try.underlying22 I1.out I2.out I3.out I4.out I5.out (by decide) lv q (rows (m.take q) vks) rfl ?h0 ⟨w2.heap.size, 0, none⟩ 1 1 (c.row (.slice ob c.keep.length capb)).toList rfl rfl ?h1 ?h2 ?h3 ?h4 ?h5 ?h6 _ rfl ?_))
        case h0 => exact (HRI.out.own.kept (grown_of_below HB2.out) (apartS (by simp))).alloc _
        case h1 => exact World.news_of_block HNW.out
        case h2 => simp [Ac.row, Value.oneCell']
        case h3 => decide
        case h4 => simp only [maxLen]; omega
        case h5 => omega
        case h6 => rw [alloc_sizeR]; omega
        intro g cap5 w5 hown hg hw hlt5
        have hbw : Below w.heap.size w w5 := (below_step HRI.out.bel HB2.out).trans (below_grownS ⟨hg.os, hg.tape, hg.output, by have := hg.size; rw [alloc_sizeR] at this; omega, fun k hk hn => (hg.block k (by rw [alloc_sizeR]; omega) hn).trans (heap_alloc_old _ _ hk)⟩ (fun k hk => (own_geS HRI.out.own k hk).1) (by omega))
        have hri2 : RJ w w5 m (q + 1) (.slice (some ⟨g, 0, none⟩) (q + 1) cap5) (vks ++ [.slice ob c.keep.length capb]) := by
          have ht : m.take (q + 1) = m.take q ++ [c] := by rw [← hcM.out]; exact List.take_succ_eq_append_getElem hmq
          have htl : (m.take q).length = q := by rw [List.length_take]; omega
          refine ⟨?_, by rw [List.length_append, HRI.out.len]; rfl, ?_, hbw⟩
          · rw [ht, rows_snoc _ _ _ _ (by rw [htl]; exact HRI.out.len)]
            exact hown
          · intro i h1 h2
            by_cases hi : i < vks.length
            · rw [List.getElem_append_left hi]; exact HRI.out.keep i h1 hi
            · have hiq : i = q := by have := HRI.out.len; rw [List.length_append, HRI.out.len] at h2; simp at h2; omega
              subst hiq
              have e1 : (vks ++ [Value.slice ob c.keep.length capb])[i] = Value.slice ob c.keep.length capb := by rw [List.getElem_append_right (by omega)]; simp
              rw [e1, hcM.out]
              exact HSU.out
        have HRI2 := Lib.hid hri2
        clear hri2 hbw hown hg hw hlt5
        go_wp2_with fail
        go_roundw
        case rel => exact ⟨q + 1, _, _, by omega, by omega, by go_num, rfl, HRI2.out⟩
        case measure => simp [intOf]; omega
      · obtain rfl : q = M := by omega
        have hkn : (q : Int) < (n : Int) := by omega
        have hsa := HRI.out.sa (by have := HML.out; have := HN.out; omega)
        have hb := HRI.out.bel
        have HSA := Lib.hid hsa
        have HOA : Hid (OwnA w lv) := Lib.hid (fun k hk => (own_geS HRI.out.own k hk).1)
        have HBB := Lib.hid hb
        clear hsa hb
        go_wp2_with fail
        go_ret
        exact ⟨⟨_, rfl, HSA.out, HOA.out⟩, HBB.out⟩
    · obtain rfl : q = n := by omega
      have hsa := HRI.out.sa (by have := HML.out; have := HN.out; omega)
      have hb := HRI.out.bel
      have ht : m.take q = m.take M := by rw [List.take_of_length_le (by have := HML.out; have := HN.out; omega), List.take_of_length_le (by have := HML.out; have := HN.out; omega)]
      rw [ht] at hsa
      have HSA := Lib.hid hsa
      have HOA : Hid (OwnA w lv) := Lib.hid (fun k hk => (own_geS HRI.out.own k hk).1)
      have HBB := Lib.hid hb
      clear hsa hb ht
      go_wp2_with fail
      go_ret
      exact ⟨⟨_, rfl, HSA.out, HOA.out⟩, HBB.out⟩
set_option maxRecDepth 100000 in
theorem Cuts_none2 (M : Nat) (oa : Option Addr) (cap : Nat) (w : World) :
    Calls Try.prog 8 #[.slice oa 0 cap, .int .i64 (M : Int)] w fun e w' => (∃ u, e = .returned u ∧ SA w' u [] ∧ OwnA w u) ∧ Below w.heap.size w w' := by
  go_enter Try.func8, Try.ntmps8
  go_wp2_with fail
  have hb0 := (Below.refl w.heap.size w).alloc (Nat.le_refl _) (.cells #[] 29)
  have HB := Lib.hid hb0
  clear hb0
  go_loopw [5, 6] (fun s i wr => i = .int .i64 0 ∧ s = .slice (some ⟨w.heap.size, 0, none⟩) 0 0 ∧ Below w.heap.size w wr) (fun _ i _ => 0)
  case atStart => exact ⟨rfl, rfl, HB.out⟩
  case round =>
    obtain ⟨rfl, rfl, hbl⟩ := hrel
    go_wp2_with fail
    go_ret
    exact ⟨⟨_, rfl, Or.inl ⟨rfl, _, 0, rfl⟩, fun k hk => by cases hk; exact Nat.le_refl _⟩, hbl⟩
theorem Cuts_val2 (l : List Ac) (M : Nat) (v : Value) (w : World) (hM : M ≤ 1000) (h : SA w v l) :
    Calls Try.prog 8 #[v, .int .i64 (M : Int)] w fun e w' => (∃ u, e = .returned u ∧ SA w' u (cuts l M) ∧ OwnA w u) ∧ Below w.heap.size w w' := by
  rcases h with ⟨rfl, oa, cap, rfl⟩ | ⟨_, b, off, cap, rfl, _, hx⟩
  · have e : cuts [] M = [] := by simp [cuts]
    rw [e]; exact Cuts_none2 M oa cap w
  · exact Cuts_some2 l l.length M b off cap w rfl hM hx
theorem cell_off {W V : World} {P b o : Nat} (h : ∀ i, i < W.heap.size → i ≠ P → V.heap[i]? = W.heap[i]?) (hb : b ≠ P) (hl : b < W.heap.size) : V.cell? ⟨b, o, none⟩ = W.cell? ⟨b, o, none⟩ := World.cell?_of_block (h b hl hb)
/-- a block of an act's cells has no truths -/
theorem Sb.move {W V : World} {P : Nat} {v : Value} {l : List Bool} {k rk p to pl : Int} {i x : ByteArray} {t n m cap : Nat} {oa : Option Addr} {ty : TypeId} (h : Sb W v l)
    (hP : W.heap[P]? = some (.cells #[.int .i64 k, .int .i64 rk, .string i, .string x, .float .f64 t, .int .i64 p, .int .u64 (n : Int), .slice oa m cap, .int .i64 to, .int .i64 pl] ty (0, 0)))
    (hV : ∀ i, i < W.heap.size → i ≠ P → V.heap[i]? = W.heap[i]?) : Sb V v l := by
  rcases h with h | ⟨h0, b, off, cap', hv, hc, hx⟩
  · exact Or.inl h
  · refine Or.inr ⟨h0, b, off, cap', hv, hc, fun j hj => ?_⟩
    have hcell := hx j hj
    have hne : b ≠ P := by
      rintro rfl
      rw [cell_of_row _ _ _ _ _ _ hP] at hcell
      obtain ⟨o, ho⟩ : ∃ o, o = off + j := ⟨_, rfl⟩
      rw [← ho] at hcell
      rcases Nat.lt_or_ge o 10 with h10 | h10
      · rcases (by omega : o = 0 ∨ o = 1 ∨ o = 2 ∨ o = 3 ∨ o = 4 ∨ o = 5 ∨ o = 6 ∨ o = 7 ∨ o = 8 ∨ o = 9) with h | h | h | h | h | h | h | h | h | h <;> subst h <;> simp at hcell
      · rw [Array.getElem?_eq_none (by simpa using h10)] at hcell; cases hcell
    rw [cell_off hV hne (block_lt_of_cell hcell)]
    exact hcell
theorem SA.move {W V : World} {P : Nat} {v : Value} {l : List Ac} {k rk p to pl : Int} {i x : ByteArray} {t n m cap : Nat} {oa : Option Addr} {ty : TypeId} (h : SA W v l)
    (hP : W.heap[P]? = some (.cells #[.int .i64 k, .int .i64 rk, .string i, .string x, .float .f64 t, .int .i64 p, .int .u64 (n : Int), .slice oa m cap, .int .i64 to, .int .i64 pl] ty (0, 0)))
    (hV : ∀ i, i < W.heap.size → i ≠ P → V.heap[i]? = W.heap[i]?) (hn : ∀ k, some k = v.ownBlock → k ≠ P) : SA V v l := by
  rcases h with h | ⟨h0, b, off, cap', hv, hc, hx⟩
  · exact Or.inl h
  · refine Or.inr ⟨h0, b, off, cap', hv, hc, fun j hj => ?_⟩
    obtain ⟨vk, h1, h2⟩ := hx j hj
    refine ⟨vk, h1.move hP hV, ?_⟩
    have hb : b ≠ P := hn b (by rw [hv]; rfl)
    have f : ∀ o, V.cell? ⟨b, o, none⟩ = W.cell? ⟨b, o, none⟩ := fun o => cell_off hV hb (block_lt_of_cell h2.1)
    unfold AtC
    rw [f, f, f, f, f, f, f, f, f, f]
    exact h2
theorem stab_SA2 (l : List Ac) : Loose.Stab (fun u V => SA V u l) := fun _ _ _ h hb => h.below hb (Nat.le_refl _)
end Go.Proofs.Ytjkiofgllmjkcaa.G
