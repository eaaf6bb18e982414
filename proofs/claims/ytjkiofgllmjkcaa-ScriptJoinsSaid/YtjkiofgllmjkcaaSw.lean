/- Refs again: what it lays is its own; two such lists, one behind the other. -/
import Derived.Test.YtjkiofgllmjkcaaSy
import Derived.Test.YtjkiofgllmjkcaaGFast
import Derived.BigQuiet
namespace Go.Proofs.Ytjkiofgllmjkcaa.G
open Go.RowKit Go.Proofs.Ytjkiofgllmjkcaa.WordPlain
set_option linter.unusedVariables false
set_option linter.unusedSimpArgs false

/-- the list that is laid, so far -/
structure RO (w0 w wr : World) (l : List Ac) (q : Nat) (lv : Value) (vks : List Value) : Prop where
  own : wr.ownsRow w.heap.size 47 10 lv q (rows (l.take q) vks)
  len : vks.length = q
  keep : ∀ i (h : i < l.length) (h' : i < vks.length), Sb w0 vks[i] l[i].keep
  bel : Below w.heap.size w wr
set_option maxRecDepth 100000 in
set_option maxHeartbeats 4000000 in
theorem Refs_own_some (l : List Ac) (n b off cap : Nat) (w0 w : World) (h00 : Below w0.heap.size w0 w) (hn : n = l.length) (hnb : n ≤ 1000000) (hx : ∀ i (h : i < l.length), ∃ vk, Sb w0 vk l[i].keep ∧ AtC w b (off + i * 10) l[i] vk) :
    Calls Try.prog 12 #[.slice (some ⟨b, off, none⟩) n cap] w fun e w' => (∃ g cap vks, e = .returned (.slice (some ⟨g, 0, none⟩) l.length cap) ∧ RO w0 w w' l l.length (.slice (some ⟨g, 0, none⟩) l.length cap) vks) := by
  have H00 := Lib.hid h00
  have HX := Lib.hid hx
  have HN := Lib.hid hn
  clear hx hn h00
  have h0 : RO w0 w (w.alloc (.cells #[] 47)) l 0 (.slice (some ⟨w.heap.size, 0, none⟩) 0 0) [] :=
    ⟨⟨by simp [rows], Or.inr ⟨w.heap.size, 0, #[], rfl, Nat.le_refl _, heap_alloc_new _ _, Nat.le_refl _, by simp [maxLen], rfl, by simp [rows]⟩⟩, rfl, (fun i h h' => absurd h' (Nat.not_lt_zero _)), (Below.refl _ _).alloc (Nat.le_refl _) _⟩
  have H0 := Lib.hid h0
  clear h0
  go_enter Try.func12, Try.ntmps12
  go_wp2_with fail
  go_loopw [3, 4] (fun s i wr => ∃ (q : Nat) (vks : List Value) (lv : Value), q ≤ n ∧ i = .int .i64 q ∧ lv = s ∧ (∃ g cap, lv = .slice (some ⟨g, 0, none⟩) q cap) ∧ RO w0 w wr l q lv vks) (fun _ i _ => n - (intOf i).toNat)
  case atStart => exact ⟨0, [], _, by omega, rfl, rfl, ⟨_, _, rfl⟩, H0.out⟩
  case round =>
    obtain ⟨q, vks, lv, hq, rfl, rfl, ⟨g0, p0, rfl⟩, hri⟩ := hrel
    have HRI := Lib.hid hri
    clear hri H0
    by_cases hlt : q < n
    · have hql : q < l.length := by have := HN.out; omega
      have hkn : (q : Int) < (n : Int) := by omega
      obtain ⟨vk, sv, cs⟩ := HX.out q hql
      have cs := cs.below HRI.out.bel (Nat.le_refl _)
      have HSV := Lib.hid sv
      have sv2 := sv.below (below_step H00.out HRI.out.bel) (Nat.le_refl _)
      obtain ⟨a, ha⟩ : ∃ a, a = l[q] := ⟨_, rfl⟩
      rw [← ha] at cs sv sv2 HSV
      have HAE := Lib.hid ha
      have RF := Lib.hid (Ref_val a vk wr sv2)
      obtain ⟨oa, cap', rfl⟩ := sv.form
      obtain ⟨c0, c1, c2, c3, c4, c5, c6, c7, c8, c9⟩ := cs
      clear ha sv sv2
      go_wp2_with fail
      refine (RF.out).mono ?_; rintro e w2 ⟨rfl, hb2⟩
      have hnw := heap_alloc_new w2 (.cells (a.row (.slice oa a.keep.length cap')) 47)
      have HNW := Lib.hid hnw
      have HB2 := Lib.hid hb2
      obtain ⟨ii, zz, i1, i2, i3, i4, i5⟩ := act2_info
      have I1 := Lib.hid i1
      have I2 := Lib.hid i2
      have I3 := Lib.hid i3
      have I4 := Lib.hid i4
      have I5 := Lib.hid i5
      have hsz := hb2.size
      have hsz2 := HRI.out.bel.size
      clear c0 c1 c2 c3 c4 c5 c6 c7 c8 c9 hnw hb2 i1 i2 i3 i4 i5
      have hlen : (rows (l.take q) vks).length = q * 10 := HRI.out.own.1
      have HLEN := Lib.hid hlen
      clear hlen
      unfold Ac.row
      go_wp2_with (at_builtin; go_loud (refine wpList_append_lies _ rfl _ _ 36 rfl w.heap.size 47 ii zz 10 112 Try.underlying36 I1.out I2.out I3.out I4.out I5.out (by decide) (.slice (some ⟨g0, 0, none⟩) q p0) q (rows (l.take q) vks) rfl ?h0 ⟨w2.heap.size, 0, none⟩ 1 1 (a.row (.slice oa a.keep.length cap')).toList rfl rfl ?h1 ?h2 ?h3 ?h4 ?h5 ?h6 _ rfl ?_))
      case h0 => exact (HRI.out.own.kept (grown_of_below HB2.out) (apartS (by simp))).alloc _
      case h1 => exact World.news_of_block HNW.out
      case h2 => simp [Ac.row, Value.oneCell']
      case h3 => decide
      case h4 => simp only [maxLen]; omega
      case h5 => omega
      case h6 => rw [alloc_sizeR]; omega
      intro g cap5 w5 hown hg hw hlt5
      have hbw : Below w.heap.size w w5 := (below_step HRI.out.bel HB2.out).trans (below_grownS ⟨hg.os, hg.tape, hg.output, by have := hg.size; rw [alloc_sizeR] at this; omega, fun k hk hn => (hg.block k (by rw [alloc_sizeR]; omega) hn).trans (heap_alloc_old _ _ hk)⟩ (fun k hk => (own_geS HRI.out.own k hk).1) (by omega))
      have hri2 : RO w0 w w5 l (q + 1) (.slice (some ⟨g, 0, none⟩) (q + 1) cap5) (vks ++ [.slice oa a.keep.length cap']) := by
        have ht : l.take (q + 1) = l.take q ++ [a] := by rw [HAE.out]; exact List.take_succ_eq_append_getElem hql
        have htl : (l.take q).length = q := by rw [List.length_take]; omega
        refine ⟨?_, by rw [List.length_append, HRI.out.len]; rfl, ?_, hbw⟩
        · rw [ht, rows_snoc _ _ _ _ (by rw [htl]; exact HRI.out.len)]
          exact hown
        · intro i h1 h2
          by_cases hi : i < vks.length
          · rw [List.getElem_append_left hi]; exact HRI.out.keep i h1 hi
          · have hiq : i = q := by have := HRI.out.len; rw [List.length_append, HRI.out.len] at h2; simp at h2; omega
            subst hiq
            have e1 : (vks ++ [Value.slice oa a.keep.length cap'])[i] = Value.slice oa a.keep.length cap' := by rw [List.getElem_append_right (by omega)]; simp
            rw [e1, ← HAE.out]
            exact HSV.out
      have HRI2 := Lib.hid hri2
      clear hri2 hbw hown hg hw hlt5
      go_wp2_with fail
      go_roundw
      case rel => exact ⟨q + 1, _, _, by omega, by go_num, rfl, ⟨_, _, rfl⟩, HRI2.out⟩
      case measure => simp [intOf]; omega
    · obtain rfl : q = n := by omega
      have hn2 := HN.out
      subst hn2
      go_wp2_with fail
      go_ret
      first | exact ⟨g0, p0, vks, rfl, HRI.out⟩ | exact ⟨g0, p0, rfl, vks, HRI.out⟩
set_option maxRecDepth 100000 in
theorem Refs_own_none (oa : Option Addr) (cap : Nat) (w0 w : World) :
    Calls Try.prog 12 #[.slice oa 0 cap] w fun e w' => (∃ g cap vks, e = .returned (.slice (some ⟨g, 0, none⟩) 0 cap) ∧ RO w0 w w' [] 0 (.slice (some ⟨g, 0, none⟩) 0 cap) vks) := by
  go_enter Try.func12, Try.ntmps12
  go_wp2_with fail
  have h0 : RO w0 w (w.alloc (.cells #[] 47)) [] 0 (.slice (some ⟨w.heap.size, 0, none⟩) 0 0) [] :=
    ⟨⟨by simp [rows], Or.inr ⟨w.heap.size, 0, #[], rfl, Nat.le_refl _, heap_alloc_new _ _, Nat.le_refl _, by simp [maxLen], rfl, by simp [rows]⟩⟩, rfl, (fun i h h' => absurd h' (Nat.not_lt_zero _)), (Below.refl _ _).alloc (Nat.le_refl _) _⟩
  have H0 := Lib.hid h0
  clear h0
  go_loopw [3, 4] (fun s i wr => i = .int .i64 0 ∧ s = .slice (some ⟨w.heap.size, 0, none⟩) 0 0 ∧ RO w0 w wr [] 0 (.slice (some ⟨w.heap.size, 0, none⟩) 0 0) []) (fun _ i _ => 0)
  case atStart => exact ⟨rfl, rfl, H0.out⟩
  case round =>
    obtain ⟨rfl, rfl, hbl⟩ := hrel
    go_wp2_with fail
    go_ret
    exact ⟨_, _, _, rfl, hbl⟩
theorem Refs_own (l : List Ac) (v : Value) (w0 w : World) (h00 : Below w0.heap.size w0 w) (hl : l.length ≤ 1000000) (h : SA w0 v l) :
    Calls Try.prog 12 #[v] w fun e w' => (∃ g cap vks, e = .returned (.slice (some ⟨g, 0, none⟩) l.length cap) ∧ RO w0 w w' l l.length (.slice (some ⟨g, 0, none⟩) l.length cap) vks) := by
  rcases h with ⟨rfl, oa, cap, rfl⟩ | ⟨_, b, off, cap, rfl, _, hx⟩
  · exact Refs_own_none oa cap w0 w
  · exact Refs_own_some l l.length b off cap w0 w h00 rfl hl (fun i h => by obtain ⟨vk, h1, h2⟩ := hx i h; exact ⟨vk, h1, h2.below h00 (Nat.le_refl _)⟩)
theorem rows_app : ∀ (l m : List Ac) (v u : List Value), v.length = l.length → rows (l ++ m) (v ++ u) = rows l v ++ rows m u
  | [], m, v, u, h => by
    have : v = [] := List.length_eq_zero_iff.1 h
    subst this
    simp [rows]
  | a :: l, m, [], u, h => by simp at h
  | a :: l, m, x :: v, u, h => by
    have := rows_app l m v u (by simpa using h)
    simp only [rows, List.cons_append] at this ⊢
    simp [this]
theorem rows_one (l : List Ac) (vks : List Value) (h : vks.length = l.length) (hv : ∀ i (h : i < vks.length), vks[i].oneCell' = true) : ∀ u ∈ rows l vks, u.oneCell' = true := by
  intro u hu
  simp only [rows, List.mem_flatMap] at hu
  obtain ⟨⟨a, v⟩, hm, hr⟩ := hu
  have hm2 := (List.of_mem_zip hm).2
  obtain ⟨i, hi, rfl⟩ := List.mem_iff_getElem.1 hm2
  have := hv i hi
  simp only [Ac.row, List.mem_cons, List.not_mem_nil, or_false] at hr
  rcases hr with rfl | rfl | rfl | rfl | rfl | rfl | rfl | rfl | rfl | rfl <;> first | rfl | exact this
theorem own_cell {w : World} {base : Nat} {e : TypeId} {size g cap n : Nat} {xs : List Value} (h : w.ownsRow base e size (.slice (some ⟨g, 0, none⟩) n cap) n xs) (j : Nat) (u : Value) (hu : xs[j]? = some u) : w.cell? ((⟨g, 0, none⟩ : Addr).add j) = some u := by
  obtain ⟨hl, h2⟩ := h
  rcases h2 with ⟨h0, _⟩ | ⟨g', cap', cur, hv, hb, hg, hn, hc, hsz, htk⟩
  · cases h0
  · injection hv with e1 e2 e3
    injection e1 with e1
    injection e1 with e1
    subst e1
    rw [add_none, Nat.zero_add]
    have hx : j < xs.length := by
      rcases Nat.lt_or_ge j xs.length with h | h
      · exact h
      · rw [List.getElem?_eq_none h] at hu; cases hu
    have := cell_of_row w g j cur e (0, 0) hg
    rw [this]
    rw [← htk, List.getElem?_take_of_lt (by omega)] at hu
    simpa using hu
/-- an append by its run, behind a guard too -/
theorem wpList_append_run {P : Program} {ops : Array Oper} {rest : List Oper} {o : Oper} {a : Go.Act} {w : World} {Q : Exit → Go.Act → World → Prop} (hw : Region.wanted o (yielded ops a.tmps) = true) (s x : Operand) (t : TypeId)
    (ho : o.op = .call { callee := .builtin .append, args := #[s, x], argTypes := #[t, t] }) (v1 v2 v : Value) (w' : World) (hs : a.eval s = v1) (hx : a.eval x = v2)
    (hr : (Builtin.append_ #[t, t] o.type #[v1, v2]).run P w = .ok v w') (h : wpList P ops Q rest (a.put o.dst v) w') : wpList P ops Q (o :: rest) a w :=
  wpList_step fun K hK => by
    rw [if_pos hw]
    unfold Oper.wp execOp
    simp only [ho, resolve, invoke, builtin, Sem.run_bind, Sem.run_pure, Result.andThen_ok, List.map_toArray, List.map_cons, List.map_nil, hs, hx, hr]
    exact hK _ _ h
/-- the one behind the other -/
theorem RO.app {w0 w1 wa w2 wb : World} {l m : List Ac} {g cap g' cap' : Nat} {vks vks' : List Value} (h1 : RO w0 w1 wa l l.length (.slice (some ⟨g, 0, none⟩) l.length cap) vks) (h01 : Below w0.heap.size w0 w1) (hab : Below wa.heap.size wa w2)
    (h2 : RO w0 w2 wb m m.length (.slice (some ⟨g', 0, none⟩) m.length cap') vks') (hn : l.length + m.length ≤ 1000) :
    ∃ v w', (Builtin.append_ #[36, 36] 36 #[.slice (some ⟨g, 0, none⟩) l.length cap, .slice (some ⟨g', 0, none⟩) m.length cap']).run Try.prog wb = .ok v w' ∧ SA w' v (l ++ m) ∧ Below w1.heap.size w1 w' := by
  obtain ⟨ii, zz, i1, i2, i3, i4, i5⟩ := act2_info
  have o1 := h1.own
  have o2 := h2.own
  rw [List.take_length] at o1 o2
  have hb := h2.bel
  have o1b := (o1.kept (grown_of_below hab) (apartS (by simp))).kept (grown_of_below hb) (apartS (by simp))
  have hone : ∀ i (h : i < vks'.length), vks'[i].oneCell' = true := by
    intro i hi
    obtain ⟨oa, c, e⟩ := (h2.keep i (by rw [← h2.len]; exact hi) hi).form
    rw [e]; rfl
  have s1 := h1.bel.size
  have s2 := hab.size
  have s3 := hb.size
  obtain ⟨v, w', hr, hown, hg, _, _⟩ := run_append_own_at (P := Try.prog) wb w1.heap.size 36 36 47 ii zz 10 112 Try.underlying36 i1 i2 i3 i4 i5 (by decide)
    (.slice (some ⟨g, 0, none⟩) l.length cap) l.length (rows l vks) o1b ⟨g', 0, none⟩ m.length cap' (rows m vks') o2.1 (fun j u hu => own_cell o2 j u hu) (rows_one m vks' h2.len hone) (by simp only [maxLen]; omega) (by omega) (by omega)
  have hbw : Below w1.heap.size w1 w' := (below_step (below_step h1.bel hab) hb).trans (below_grownS hg (fun k hk => (own_geS o1b k hk).1) (by omega))
  refine ⟨v, w', hr, ?_, hbw⟩
  have hlen : (vks ++ vks').length = (l ++ m).length := by rw [List.length_append, List.length_append, h1.len, h2.len]
  refine SA.of_rows (base := w1.heap.size) (ty := 47) (vks := vks ++ vks') (by rw [rows_app l m vks vks' h1.len, List.length_append]; exact hown) hlen ?_
  intro i hi hi2
  have b0 := below_step h01 hbw
  by_cases hc : i < vks.length
  · rw [List.getElem_append_left hc, List.getElem_append_left (by rw [← h1.len]; exact hc)]
    exact (h1.keep i (by rw [← h1.len]; exact hc) hc).below b0 (Nat.le_refl _)
  · have hl := h1.len
    rw [List.getElem_append_right (by omega), List.getElem_append_right (by omega)]
    have hk := h2.keep (i - vks.length) (by rw [List.length_append] at hi; omega) (by rw [List.length_append] at hi2; omega)
    simp only [← hl]
    exact hk.below b0 (Nat.le_refl _)
end Go.Proofs.Ytjkiofgllmjkcaa.G
