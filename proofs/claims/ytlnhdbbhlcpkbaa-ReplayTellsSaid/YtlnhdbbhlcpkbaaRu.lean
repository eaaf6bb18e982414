/- The records up to a version. -/
import Derived.Test.YtlnhdbbhlcpkbaaRt
import Derived.Deep.MidRow
namespace Go.Proofs.Ytlnhdbbhlcpkbaa.G
open Go.RowKit Go.Maps Go.Proofs.Ytlnhdbbhlcpkbaa.WordPlain Go.Proofs.Ytlnhdbbhlcpkbaa.Loose
set_option linter.unusedVariables false
set_option linter.unusedSimpArgs false

theorem SlV.own {w : World} {base size n : Nat} {e : TypeId} {v : Value} {xs : List Value} (h : w.ownsRow base e size v n xs) : SlV v := by
  rcases h.2 with ⟨h, _⟩ | ⟨g, cap, cur, h, _⟩
  · exact Or.inl h
  · exact Or.inr ⟨_, _, _, h⟩
theorem encR_len (x : Rec) : (encR x).length = 7 := rfl
theorem flat_lenR (l : List Rec) : (l.flatMap encR).length = l.length * 7 := by
  induction l with
  | nil => rfl
  | cons a l ih => rw [List.flatMap_cons, List.length_append, ih, encR_len, List.length_cons]; omega
theorem encR_one (l : List Rec) : ∀ u ∈ l.flatMap encR, u.oneCell' = true := by
  intro u hu
  obtain ⟨s, _, h⟩ := List.mem_flatMap.1 hu
  exact oneR s u h
/-- records that lie somewhere are put behind those of an own row -/
theorem own_appR (W : World) (base : Nat) (v u : Value) (l M : List Rec) (hown : OwnL base 42 7 encR W v l) (hu : LR 7 encR W u M) (hs : SlV u) (h6 : l.length + M.length ≤ 1000000) (hb : base ≤ W.heap.size) :
    ∃ v' w', (Builtin.append_ #[22, 22] 22 #[v, u]).run Try.prog W = .ok v' w' ∧ OwnL base 42 7 encR w' v' (l ++ M) ∧ Below base W w' := by
  obtain ⟨ii, zz, i1, i2, i3, i4, i5⟩ := rec_info
  obtain ⟨oa, cap, rfl, _, hx⟩ := hu
  rcases hs with hs | ⟨a, n, c, hs⟩
  · injection hs with e1 e2 e3
    subst e1 e3
    have hM : M = [] := List.length_eq_zero_iff.1 e2
    subst hM
    refine ⟨v, W, run_append_owned_none W base 22 22 42 ii 7 Try.underlying22 i1 v l.length (l.flatMap encR) hown, ?_, Below.refl _ _⟩
    rw [List.append_nil]; exact hown
  · injection hs with e1 e2 e3
    subst e1 e3
    obtain ⟨v', w', hr, ho, hg, _, _⟩ := run_append_own_at (P := Try.prog) W base 22 22 42 ii zz 7 72 Try.underlying22 i1 i2 i3 i4 i5 (by decide) v l.length (l.flatMap encR) hown a M.length cap (M.flatMap encR) (flat_lenR M)
      (fun j u hu => by
        have hj : j < M.length * 7 := by
          rcases Nat.lt_or_ge j (M.flatMap encR).length with h | h
          · rw [flat_lenR] at h; exact h
          · rw [List.getElem?_eq_none h] at hu; cases hu
        have hi : j / 7 < M.length := by omega
        have e := flat_at 7 encR encR_len M (j / 7) (j % 7) hi (Nat.mod_lt _ (by decide))
        rw [show j / 7 * 7 + j % 7 = j by omega, hu] at e
        obtain ⟨b, off, ha, hc⟩ := hx (j / 7) hi
        injection ha with ha
        subst ha
        rw [add_noneR, show off + j = off + j / 7 * 7 + j % 7 by omega]
        exact hc _ _ e.symm) (encR_one M) (by simp only [maxLen]; omega) (by omega) hb
    refine ⟨v', w', hr, ?_, below_grownR hg (fun k hk => (own_geR hown k hk).1) hb⟩
    show w'.ownsRow _ _ _ _ (l ++ M).length ((l ++ M).flatMap encR)
    rw [List.length_append, List.flatMap_append]
    exact ho
theorem wpList_append_runR {P : Program} {ops : Array Oper} {rest : List Oper} {o : Oper} {a : Go.Act} {w : World} {Q : Exit → Go.Act → World → Prop} (hw : Region.wanted o (yielded ops a.tmps) = true) (s x : Operand) (t : TypeId)
    (ho : o.op = .call { callee := .builtin .append, args := #[s, x], argTypes := #[t, t] }) (v1 v2 v : Value) (w' : World) (hs : a.eval s = v1) (hx : a.eval x = v2)
    (hr : (Builtin.append_ #[t, t] o.type #[v1, v2]).run P w = .ok v w') (h : wpList P ops Q rest (a.put o.dst v) w') : wpList P ops Q (o :: rest) a w :=
  wpList_step fun K hK => by
    rw [if_pos hw]
    unfold Oper.wp execOp
    simp only [ho, resolve, invoke, builtin, Sem.run_bind, Sem.run_pure, Result.andThen_ok, List.map_toArray, List.map_cons, List.map_nil, hs, hx, hr]
    exact hK _ _ h
set_option maxRecDepth 100000 in
set_option maxHeartbeats 4000000 in
theorem Clone_val (w : World) (v : Value) (l : List Rec) (h : LR 7 encR w v l) (hs : SlV v) (hl : l.length ≤ 1000000) :
    Calls Try.prog 29 #[v] w fun e w' => (∃ u, e = .returned u ∧ OwnL w.heap.size 42 7 encR w' u l) ∧ Below w.heap.size w w' := by
  have h0 := own_new w 42 7 encR w.heap.size (Nat.le_refl _)
  have hb0 := (Below.refl w.heap.size w).alloc (Nat.le_refl _) (.cells #[] 42)
  obtain ⟨v', w', hr, ho, hb⟩ := own_appR (w.alloc (.cells #[] 42)) w.heap.size _ v [] l h0 (h.below hb0 (Nat.le_refl _)) hs (by simpa using hl) (by rw [alloc_sizeR]; omega)
  have HR := Lib.hid hr
  have HO := Lib.hid ho
  have HB := Lib.hid (hb0.trans hb)
  obtain ⟨oa, cap, hv, _⟩ := h
  rcases hs with rfl | ⟨a, n, c, rfl⟩
  · injection hv with e1 e2 e3
    have hl0 : l = [] := List.length_eq_zero_iff.1 e2.symm
    subst hl0
    clear HR HO HB hr ho hb h0 hb0 e1 e2 e3
    have eq0 := fun W => Go.Lib.run_eql_slice_nil (P := Try.prog) W 22 42 none 0 0 0 0 Try.underlying22
    go_enter Try.func29, Try.ntmps29
    go_wp2_with fail
    go_ret
    exact ⟨⟨_, rfl, own_nil _ _ _ _ _⟩, Below.refl _ _⟩
  · clear hr ho hb h0 hb0 hv
    have eq0 := fun W => Go.Lib.run_eql_slice_nil (P := Try.prog) W 22 42 (some a) n c 0 0 Try.underlying22
    go_enter Try.func29, Try.ntmps29
    go_wp2_with (at_builtin; refine wpList_append_runR rfl _ _ 22 rfl _ _ v' w' rfl rfl HR.out ?_)
    go_ret
    exact ⟨⟨_, rfl, HO.out⟩, HB.out⟩
set_option maxRecDepth 100000 in
set_option maxHeartbeats 4000000 in
theorem clos_upto (r : Rec) (ver B : Nat) (W : World) (hB : W.cell? ⟨B, 0, none⟩ = some (.int .u64 (ver : Int))) : Calls Try.prog 30 #[encV r, .pointer (some ⟨B, 0, none⟩)] W fun e w' => e = .returned (.bool (decide (ver < r.ver))) ∧ Below W.heap.size W w' := by
  have hlt := lt_of_cellR hB
  have n0 := heap_alloc_new W (.cells #[.int .u64 (r.lsn : Int), .int .u32 (r.ep : Int), .int .i64 r.kind, .int .u64 (r.ver : Int), .int .u64 (r.dl : Int), .string r.id, .string r.va] 42)
  have b0 : Below W.heap.size W (W.alloc (.cells #[.int .u64 (r.lsn : Int), .int .u32 (r.ep : Int), .int .i64 r.kind, .int .u64 (r.ver : Int), .int .u64 (r.dl : Int), .string r.id, .string r.va] 42)) := (Below.refl _ _).alloc (Nat.le_refl _) _
  have z3 := (cell_of_row _ _ 3 _ _ _ n0).trans (show _ = some (.int .u64 (r.ver : Int)) from rfl)
  have zB := (b0.cell (p := ⟨B, 0, none⟩) hlt).trans hB
  have HB := Lib.hid b0
  clear n0 b0 hlt hB
  go_enter Try.func30, Try.ntmps30
  go_wp2_with fail
  go_ret
  exact ⟨by simp, HB.out⟩
set_option maxRecDepth 100000 in
set_option maxHeartbeats 4000000 in
theorem Idx_val (w : World) (v : Value) (l : List Rec) (ver B : Nat) (h : LR 7 encR w v l) (hl : l.length ≤ 1000000) (hB : w.cell? ⟨B, 0, none⟩ = some (.int .u64 (ver : Int))) :
    Calls Try.prog 36 #[v, .func (.func 30) #[] #[.pointer (some ⟨B, 0, none⟩)]] w fun e w' => ((∃ i : Nat, ∃ h : i < l.length, e = .returned (.int .i64 (i : Int)) ∧ ver < l[i].ver ∧ ∀ r ∈ l.take i, r.ver ≤ ver) ∨ (e = .returned (.int .i64 (-1)) ∧ ∀ r ∈ l, r.ver ≤ ver)) ∧ Below w.heap.size w w' := by
  obtain ⟨oa, cap, rfl, _, hx⟩ := h
  obtain ⟨n, hn⟩ : ∃ n, n = l.length := ⟨_, rfl⟩
  rw [← hn] at hl
  rw [show (Value.slice oa l.length cap) = .slice oa n cap by rw [hn]]
  have AT := Lib.hid hx
  have HN := Lib.hid hn
  have HBC := Lib.hid hB
  clear hx hn hB
  go_enter Try.func36, Try.ntmps36
  go_wp2_with fail
  go_loopw [8] (fun i wr => ∃ q : Nat, q ≤ n ∧ i = .int .i64 q ∧ (∀ r ∈ l.take q, r.ver ≤ ver) ∧ Below w.heap.size w wr) (fun i _ => n - (intOf i).toNat)
  case atStart => exact ⟨0, by omega, rfl, by simp, Below.refl _ _⟩
  case round =>
    obtain ⟨q, hq, rfl, hall, hbl⟩ := hrel
    have HA := Lib.hid hall
    have HB := Lib.hid hbl
    clear hall hbl
    by_cases hlt : q < n
    · have hkn : (q : Int) < (n : Int) := by omega
      have hql : q < l.length := by have := HN.out; omega
      obtain ⟨g, off, hoa, hc⟩ := AT.out q hql
      have htk : l.take (q + 1) = l.take q ++ [l[q]] := List.take_succ_eq_append_getElem hql
      have hver : ∃ r, r = l[q] := ⟨_, rfl⟩
      obtain ⟨r, hr⟩ := hver
      have HR := Lib.hid hr
      rw [← hr] at hc htk
      have hc' := fun j u hu => (HB.out.cell (p := ⟨g, off + q * 7 + j, none⟩) (lt_of_cellR (hc j u hu))).trans (hc j u hu)
      have s0 : wr.cell? ⟨g, off + q * 7, none⟩ = some (.int .u64 (r.lsn : Int)) := hc' 0 _ rfl
      have s1 : wr.cell? ⟨g, off + q * 7 + 1, none⟩ = some (.int .u32 (r.ep : Int)) := hc' 1 _ rfl
      have s2 : wr.cell? ⟨g, off + q * 7 + 2, none⟩ = some (.int .i64 r.kind) := hc' 2 _ rfl
      have s3 : wr.cell? ⟨g, off + q * 7 + 3, none⟩ = some (.int .u64 (r.ver : Int)) := hc' 3 _ rfl
      have s4 : wr.cell? ⟨g, off + q * 7 + 4, none⟩ = some (.int .u64 (r.dl : Int)) := hc' 4 _ rfl
      have s5 : wr.cell? ⟨g, off + q * 7 + 5, none⟩ = some (.string r.id) := hc' 5 _ rfl
      have s6 : wr.cell? ⟨g, off + q * 7 + 6, none⟩ = some (.string r.va) := hc' 6 _ rfl
      have cv := clos_upto r ver B wr ((HB.out.cell (p := ⟨B, 0, none⟩) (lt_of_cellR HBC.out)).trans HBC.out)
      have WJ := Lib.hid (wrR q (by omega))
      have HTK := Lib.hid htk
      subst hoa
      clear hc hc' htk hr
      by_cases hv : ver < r.ver
      · rw [decide_eq_true hv] at cv
        have CV := Lib.hid cv
        have HV := Lib.hid hv
        clear cv hv
        go_wp2_with fail
        refine CV.out.mono ?_; rintro e w2 ⟨rfl, b2⟩
        have BE := Lib.hid (stepR HB.out b2)
        clear b2
        go_wp2_with fail
        go_ret
        exact ⟨Or.inl ⟨q, by have := HN.out; omega, rfl, by have := HV.out; rw [HR.out] at this; exact this, HA.out⟩, BE.out⟩
      · rw [decide_eq_false hv] at cv
        have CV := Lib.hid cv
        have HV := Lib.hid hv
        clear cv hv
        go_wp2_with fail
        refine CV.out.mono ?_; rintro e w2 ⟨rfl, b2⟩
        have BE := Lib.hid (stepR HB.out b2)
        clear b2 s0 s1 s2 s3 s4 s5 s6
        go_wp2_with fail
        go_roundw
        case rel => exact ⟨q + 1, by omega, by first | rfl | (rw [WJ.out]), (fun x hx => by
          rw [HTK.out] at hx
          rcases List.mem_append.1 hx with hx | hx
          · exact HA.out x hx
          · rw [List.mem_singleton.1 hx]; have := HV.out; omega), BE.out⟩
        case measure => (try rw [WJ.out]); simp only [intOf, Int.toNat_natCast]; omega
    · obtain rfl : q = n := by omega
      have ht : l.take q = l := List.take_of_length_le (by have := HN.out; omega)
      rw [ht] at HA
      clear ht hlt
      go_wp2_with fail
      go_ret
      exact ⟨Or.inr ⟨rfl, HA.out⟩, HB.out⟩
theorem sl_fromR (W : World) (g off len cap p : Nat) (hp : p ≤ len) (hc : p < cap) :
    (Instr.sliceAt 22 (.slice (some ⟨g, off, none⟩) len cap) (some (.int .i64 (p : Int))) none none).run Try.prog W = .ok (.slice (some ⟨g, off + p * 7, none⟩) (len - p) (cap - p)) W := by
  have ht := Try.underlying22
  have he : Try.prog.elem 22 = 42 := by simp [Program.elem, ht]
  have ht' : Try.prog.underlying 22 = some (.slice (Try.prog.elem 22)) := by rw [he]; exact ht
  rw [run_sliceAt_slice _ _ _ _ _ _ ht', run_slice_l (P := Try.prog) W 22 (some ⟨g, off, none⟩) len cap ht' .i64 (p : Int) (by omega) (by omega), he]
  obtain ⟨ii, z, h1, _, h3, _, _⟩ := rec_info
  simp only [sizeOf, typeInfo]
  simp [h1, h3, sliced, add_noneR]
  omega
theorem sl_toR (W : World) (g off len cap p : Nat) (hp : p ≤ cap) :
    (Instr.sliceAt 22 (.slice (some ⟨g, off, none⟩) len cap) none (some (.int .i64 (p : Int))) none).run Try.prog W = .ok (.slice (some ⟨g, off, none⟩) p cap) W := by
  have ht := Try.underlying22
  have he : Try.prog.elem 22 = 42 := by simp [Program.elem, ht]
  have ht' : Try.prog.underlying 22 = some (.slice (Try.prog.elem 22)) := by rw [he]; exact ht
  rw [run_sliceAt_slice _ _ _ _ _ _ ht', run_slice_h (P := Try.prog) W 22 (some ⟨g, off, none⟩) len cap ht' .i64 (p : Int) (by omega) (by omega), he]
  obtain ⟨ii, z, h1, _, h3, _, _⟩ := rec_info
  simp only [sizeOf, typeInfo]
  simp [h1, h3, sliced, Addr.add]
theorem clr_R (W : World) (g o m c : Nat) (hm : 0 < m) (ht : W.there g o (m * 7)) :
    ∃ zs : List Value, zs.length = m * 7 ∧ ∀ ty, (Builtin.clear_ #[22] ty #[.slice (some ⟨g, o, none⟩) m c]).run Try.prog W = .ok (.tuple #[]) (W.setCells g o zs) := by
  have hz : (Builtin.zeroCells Rec.zero.row m).size = m * 7 := by simp [Builtin.zeroCells, Rec.row]
  refine ⟨(Builtin.zeroCells Rec.zero.row m).toList, by rw [Array.length_toList, hz], fun ty => ?_⟩
  have hst := run_storeCells_cells (P := Try.prog) g o (Builtin.zeroCells Rec.zero.row m).toList 0 W (by intro j hj; rw [Array.length_toList, hz] at hj; simpa using (ht j hj).1) (by intro j hj; rw [Array.length_toList, hz] at hj; simpa using (ht j hj).2) (by
    intro v hv
    have hv2 : v ∈ Builtin.zeroCells Rec.zero.row m := by simpa using hv
    unfold Builtin.zeroCells at hv2
    obtain ⟨i, _, rfl⟩ := Array.mem_map.1 hv2
    have h7 : i % Rec.zero.row.size < 7 := Nat.mod_lt _ (by decide)
    obtain ⟨k, hk⟩ : ∃ k, k = i % Rec.zero.row.size := ⟨_, rfl⟩
    rw [← hk] at h7 ⊢
    rcases (by omega : k = 0 ∨ k = 1 ∨ k = 2 ∨ k = 3 ∨ k = 4 ∨ k = 5 ∨ k = 6) with h | h | h | h | h | h | h <;> subst h <;> rfl)
  simp only [Nat.add_zero] at hst
  obtain ⟨q, rfl⟩ : ∃ q, m = q + 1 := ⟨m - 1, by omega⟩
  rw [show Rec.zero.row = #[.int .u64 0, .int .u32 0, .int .i64 0, .int .u64 0, .int .u64 0, .string (ByteArray.mk #[]), .string (ByteArray.mk #[])] from rfl] at hst ⊢
  simp [Builtin.clear_, run_underlying Try.underlying22, zero_rec, Value.cells, hst]
theorem below_setCells {B : Nat} {w : World} {g : Nat} (hg : B ≤ g) : ∀ (vs : List Value) (o : Nat) (w' : World), Below B w w' → Below B w (w'.setCells g o vs)
  | [], _, _, h => h
  | v :: r, o, w', h => by rw [World.setCells]; exact below_setCells hg r (o + 1) _ (h.setCell (p := ⟨g, o, none⟩) hg v)
theorem range_below {B : Nat} {w w' : World} {g o : Nat} {cs : List Value} (h : w.rangeAt g o cs) (hb : Below B w w') (hB : w.heap.size ≤ B) : w'.rangeAt g o cs := fun j v hv => by
  have := h j v hv
  rw [hb.cell (p := ⟨g, o + j, none⟩) (Nat.lt_of_lt_of_le (lt_of_cellR this) hB)]
  exact this
theorem there_below {B : Nat} {w w' : World} {g o n : Nat} (h : w.there g o n) (hb : Below B w w') (hg : g < B) : w'.there g o n := fun j hj => by
  have e := hb.block g hg
  have h2 := h j hj
  simp only [World.cell?, World.frozen?] at h2 ⊢
  rw [e]
  exact h2
theorem uptoL_step (ver : Nat) (l : List Rec) (j : Nat) (h : j < l.length) : uptoL ver (l.take (j + 1)) = uptoL ver (l.take j) ++ (if l[j].ver ≤ ver then [l[j]] else []) := by
  unfold uptoL
  rw [List.take_succ_eq_append_getElem h, List.filter_append]
  congr 1
  by_cases h : l[j].ver ≤ ver <;> simp [h]
theorem uptoL_all {ver : Nat} {l : List Rec} (h : ∀ r ∈ l, r.ver ≤ ver) : uptoL ver l = l := List.filter_eq_self.2 (fun r hr => decide_eq_true (h r hr))
/-- the row as it stands: what is kept ahead, what is not looked at yet behind -/
structure DelAt (w wr : World) (base g off n : Nat) (l : List Rec) (ver p j : Nat) (cur : List Rec) : Prop where
  pj : p < j
  jn : j ≤ n
  len : cur.length = n
  done : cur.take p = uptoL ver (l.take j)
  rest : cur.drop j = l.drop j
  rows : ∀ i (h : i < cur.length), wr.rangeAt g (off + i * 7) (encR cur[i])
  th : wr.there g off (n * 7)
  bel : Below base w wr
theorem DelAt.skip {w wr w2 : World} {base g off n : Nat} {l : List Rec} {ver p j : Nat} {cur : List Rec} (h : DelAt w wr base g off n l ver p j cur) (hb : Below wr.heap.size wr w2) (hg : g < wr.heap.size) (hj : j < n) (hl : n = l.length) (hv : ∀ h : j < l.length, ¬ l[j].ver ≤ ver) (hbase : base ≤ wr.heap.size) : DelAt w w2 base g off n l ver p (j + 1) cur := by
  have hjl : j < l.length := by omega
  refine ⟨by have := h.pj; omega, by omega, h.len, ?_, ?_, fun i hi => range_below (h.rows i hi) hb (Nat.le_refl _), there_below h.th hb hg, h.bel.trans (hb.mono hbase)⟩
  · rw [uptoL_step ver l j hjl, if_neg (hv hjl), List.append_nil]; exact h.done
  · rw [← List.drop_drop, h.rest, List.drop_drop]
theorem DelAt.put {w wr w2 : World} {base g off n : Nat} {l : List Rec} {ver p j : Nat} {cur : List Rec} (h : DelAt w wr base g off n l ver p j cur) (hb : Below wr.heap.size wr w2) (hg : g < wr.heap.size) (hbg : base ≤ g) (hj : j < n) (hl : n = l.length) (r : Rec) (hr : ∀ h : j < l.length, r = l[j]) (hv : r.ver ≤ ver) (hbase : base ≤ wr.heap.size) :
    DelAt w (w2.setCells g (off + p * 7) (encR r)) base g off n l ver (p + 1) (j + 1) (cur.set p r) := by
  have hjl : j < l.length := by omega
  have hpj := h.pj
  have hp : p < cur.length := by rw [h.len]; omega
  have th2 := there_below h.th hb hg
  have thp : w2.there g (off + p * 7) 7 := fun k hk => by
    have := th2 (p * 7 + k) (by have := Nat.mul_le_mul_right 7 (show p + 1 ≤ n by omega); omega)
    rw [show off + p * 7 + k = off + (p * 7 + k) by omega]
    exact this
  refine ⟨by omega, by omega, by rw [List.length_set]; exact h.len, ?_, ?_, fun i hi => ?_, World.there_setCells th2 _ _ _, below_setCells hbg _ _ _ (h.bel.trans (hb.mono hbase))⟩
  · rw [uptoL_step ver l j hjl, ← hr hjl, if_pos hv, ← h.done]
    rw [List.take_succ_eq_append_getElem (by rw [List.length_set]; exact hp), List.getElem_set_self, List.take_set_of_le (Nat.le_refl _)]
  · rw [List.drop_set_of_lt (by omega), ← List.drop_drop, h.rest, List.drop_drop]
  · have hi' : i < cur.length := by rw [List.length_set] at hi; exact hi
    by_cases e : i = p
    · subst e
      rw [List.getElem_set_self]
      exact World.rangeAt_setCells_same w2 g _ (encR r) thp
    · rw [List.getElem_set_ne (by omega)]
      refine World.rangeAt_setCells_apart (range_below (h.rows i hi') hb (Nat.le_refl _)) g _ (encR r) (Or.inr ?_)
      rcases Nat.lt_or_ge i p with h1 | h1
      · left; show off + i * 7 + 7 ≤ _; omega
      · right; show off + p * 7 + 7 ≤ _; omega
set_option maxRecDepth 100000 in
set_option maxHeartbeats 4000000 in
theorem Del_core (w : World) (base g off cap n : Nat) (l : List Rec) (ver B : Nat) (hn : n = l.length) (hn6 : n ≤ 1000000) (hcap : n ≤ cap) (hg : base ≤ g) (hgs : g < w.heap.size) (hB : w.cell? ⟨B, 0, none⟩ = some (.int .u64 (ver : Int))) (hBb : B < base)
    (hR : ∀ i (h : i < l.length), w.rangeAt g (off + i * 7) (encR l[i])) (hT : w.there g off (n * 7)) :
    Calls Try.prog 28 #[.slice (some ⟨g, off, none⟩) n cap, .func (.func 30) #[] #[.pointer (some ⟨B, 0, none⟩)]] w fun e w' => (∃ u, e = .returned u ∧ LR 7 encR w' u (uptoL ver l)) ∧ Below base w w' := by
  have lr : LR 7 encR w (.slice (some ⟨g, off, none⟩) n cap) l := ⟨_, cap, by rw [hn], fun _ => by omega, fun i hi => ⟨g, off, rfl, fun j u hu => hR i hi j u hu⟩⟩
  have iv := Idx_val w _ l ver B lr (by omega) hB
  have IV := Lib.hid iv
  have LR0 := Lib.hid lr
  have HN := Lib.hid hn
  have HG := Lib.hid hg
  have HGS := Lib.hid hgs
  have HBC := Lib.hid hB
  have HBB := Lib.hid hBb
  have HR := Lib.hid hR
  have HT := Lib.hid hT
  have HCAP := Lib.hid hcap
  clear iv lr hg hgs hB hBb hR hT hn hcap
  go_enter Try.func28, Try.ntmps28
  go_wp2_with fail
  refine IV.out.mono ?_; rintro e w1 ⟨hcase, b1⟩
  have BB1 := Lib.hid (b1.mono (show base ≤ w.heap.size by have := HG.out; have := HGS.out; omega))
  rcases hcase with ⟨i, hi, rfl, hvi, hpre⟩ | ⟨rfl, hall⟩
  rotate_left
  · have hl2 := LR0.out.below b1 (Nat.le_refl _)
    have HL : Hid (LR 7 encR w1 (.slice (some ⟨g, off, none⟩) n cap) (uptoL ver l)) := Lib.hid (by rw [uptoL_all hall]; exact hl2)
    clear hl2 hall b1
    go_wp2_with fail
    go_ret
    exact ⟨⟨_, rfl, HL.out⟩, BB1.out⟩
  · have hin : i < n := by have := HN.out; omega
    have d0 : DelAt w w1 base g off n l ver i (i + 1) l := by
      refine ⟨by omega, by omega, HN.out.symm, ?_, rfl, fun k hk => range_below (HR.out k hk) b1 (Nat.le_refl _), there_below HT.out b1 HGS.out, BB1.out⟩
      rw [uptoL_step ver l i hi, if_neg (by omega), List.append_nil, uptoL_all hpre]
    have g1 : ((i : Int) == -1) = false := beq_eq_false_iff_ne.2 (by omega)
    have g2 : ((i : Int) = -1) = False := eq_false (by omega)
    have W1 := (wrR i (by omega))
    have D0 := Lib.hid d0
    have HI := Lib.hid hin
    have B1S := Lib.hid (show g < w1.heap.size from Nat.lt_of_lt_of_le HGS.out b1.size)
    clear d0 hpre hvi b1 hi
    go_wp2_with fail
    go_loopw [5, 6] (fun a b wr => ∃ (p j : Nat) (cur : List Rec), a = .int .i64 p ∧ b = .int .i64 j ∧ DelAt w wr base g off n l ver p j cur ∧ g < wr.heap.size) (fun _ b _ => n - (intOf b).toNat)
    case atStart => exact ⟨i, i + 1, l, rfl, by first | rfl | (rw [W1]) | go_num, D0.out, B1S.out⟩
    case round =>
      obtain ⟨p, j, cur, rfl, rfl, hd, hgw⟩ := hrel
      have HD := Lib.hid hd
      have HGW := Lib.hid hgw
      have hpj := hd.pj
      have hjn := hd.jn
      clear hd hgw g1 g2
      by_cases hlt : j < n
      · have hkn : (j : Int) < (n : Int) := by omega
        have hjl : j < l.length := by have := HN.out; omega
        have hjc : j < cur.length := by rw [HD.out.len]; exact hlt
        have hcl : cur[j] = l[j] := by
          have h1 := HD.out.rest
          have h2 : (cur.drop j)[0]? = (l.drop j)[0]? := by rw [h1]
          rw [List.getElem?_drop, List.getElem?_drop, Nat.add_zero, List.getElem?_eq_getElem hjc, List.getElem?_eq_getElem hjl] at h2
          exact Option.some.inj h2
        have hc := HD.out.rows j hjc
        obtain ⟨r, hr⟩ : ∃ r, r = l[j] := ⟨_, rfl⟩
        rw [hcl, ← hr] at hc
        have HRJ := Lib.hid hr
        have s0 : wr.cell? ⟨g, off + j * 7, none⟩ = some (.int .u64 (r.lsn : Int)) := hc 0 _ rfl
        have s1 : wr.cell? ⟨g, off + j * 7 + 1, none⟩ = some (.int .u32 (r.ep : Int)) := hc 1 _ rfl
        have s2 : wr.cell? ⟨g, off + j * 7 + 2, none⟩ = some (.int .i64 r.kind) := hc 2 _ rfl
        have s3 : wr.cell? ⟨g, off + j * 7 + 3, none⟩ = some (.int .u64 (r.ver : Int)) := hc 3 _ rfl
        have s4 : wr.cell? ⟨g, off + j * 7 + 4, none⟩ = some (.int .u64 (r.dl : Int)) := hc 4 _ rfl
        have s5 : wr.cell? ⟨g, off + j * 7 + 5, none⟩ = some (.string r.id) := hc 5 _ rfl
        have s6 : wr.cell? ⟨g, off + j * 7 + 6, none⟩ = some (.string r.va) := hc 6 _ rfl
        have n0 := heap_alloc_new wr (.cells #[.int .u64 (r.lsn : Int), .int .u32 (r.ep : Int), .int .i64 r.kind, .int .u64 (r.ver : Int), .int .u64 (r.dl : Int), .string r.id, .string r.va] 42)
        have b0 : Below wr.heap.size wr (wr.alloc (.cells #[.int .u64 (r.lsn : Int), .int .u32 (r.ep : Int), .int .i64 r.kind, .int .u64 (r.ver : Int), .int .u64 (r.dl : Int), .string r.id, .string r.va] 42)) := (Below.refl _ _).alloc (Nat.le_refl _) _
        have c0 := (cell_of_row _ _ 0 _ _ _ n0).trans (show _ = some (.int .u64 (r.lsn : Int)) from rfl)
        have c1 := (cell_of_row _ _ 1 _ _ _ n0).trans (show _ = some (.int .u32 (r.ep : Int)) from rfl)
        have c2 := (cell_of_row _ _ 2 _ _ _ n0).trans (show _ = some (.int .i64 r.kind) from rfl)
        have c3 := (cell_of_row _ _ 3 _ _ _ n0).trans (show _ = some (.int .u64 (r.ver : Int)) from rfl)
        have c4 := (cell_of_row _ _ 4 _ _ _ n0).trans (show _ = some (.int .u64 (r.dl : Int)) from rfl)
        have c5 := (cell_of_row _ _ 5 _ _ _ n0).trans (show _ = some (.string r.id) from rfl)
        have c6 := (cell_of_row _ _ 6 _ _ _ n0).trans (show _ = some (.string r.va) from rfl)
        have hbw : B < wr.heap.size := by have := HBB.out; have := HG.out; have := HGW.out; omega
        have cB := (HD.out.bel.cell (p := ⟨B, 0, none⟩) HBB.out).trans HBC.out
        have cv := clos_upto r ver B (wr.alloc (.cells #[.int .u64 (r.lsn : Int), .int .u32 (r.ep : Int), .int .i64 r.kind, .int .u64 (r.ver : Int), .int .u64 (r.dl : Int), .string r.id, .string r.va] 42)) ((b0.cell (p := ⟨B, 0, none⟩) hbw).trans cB)
        have WJ := Lib.hid (wrR j (by omega))
        have WP := Lib.hid (wrR p (by omega))
        have B0 := Lib.hid b0
        have N0 := Lib.hid n0
        have HBS := Lib.hid (show base ≤ wr.heap.size by have := HG.out; have := HGW.out; omega)
        clear hcl hc hr n0 b0 hbw cB hjc
        by_cases hv : ver < r.ver
        · rw [decide_eq_true hv] at cv
          have CV := Lib.hid cv
          have HV := Lib.hid hv
          clear cv hv
          go_wp2_with fail
          refine CV.out.mono ?_; rintro e w2 ⟨rfl, b2⟩
          have HD2 := Lib.hid (HD.out.skip (stepR B0.out b2) HGW.out hlt HN.out (fun h => by have := HV.out; rw [HRJ.out] at this; omega) HBS.out)
          have HG2 := Lib.hid (show g < w2.heap.size from Nat.lt_of_lt_of_le HGW.out (stepR B0.out b2).size)
          clear b2 s0 s1 s2 s3 s4 s5 s6 c0 c1 c2 c3 c4 c5 c6
          go_wp2_with fail
          go_roundw
          case rel => exact ⟨p, j + 1, cur, rfl, by first | rfl | (rw [WJ.out]) | go_num, HD2.out, HG2.out⟩
          case measure => (try rw [WJ.out]); simp only [intOf, Int.toNat_natCast]; omega
        · rw [decide_eq_false hv] at cv
          have CV := Lib.hid cv
          have HV := Lib.hid hv
          clear cv hv
          go_wp2_with fail
          refine CV.out.mono ?_; rintro e w2 ⟨rfl, b2⟩
          have hd2 := HD.out.put (stepR B0.out b2) HGW.out HG.out hlt HN.out r (fun h => HRJ.out) (by have := HV.out; omega) HBS.out
          have HD2 := Lib.hid hd2
          have n2 := (b2.block _ (lt_of_rowR N0.out)).trans N0.out
          have y0 := (cell_of_row _ _ 0 _ _ _ n2).trans (show _ = some (.int .u64 (r.lsn : Int)) from rfl)
          have y1 := (cell_of_row _ _ 1 _ _ _ n2).trans (show _ = some (.int .u32 (r.ep : Int)) from rfl)
          have y2 := (cell_of_row _ _ 2 _ _ _ n2).trans (show _ = some (.int .i64 r.kind) from rfl)
          have y3 := (cell_of_row _ _ 3 _ _ _ n2).trans (show _ = some (.int .u64 (r.ver : Int)) from rfl)
          have y4 := (cell_of_row _ _ 4 _ _ _ n2).trans (show _ = some (.int .u64 (r.dl : Int)) from rfl)
          have y5 := (cell_of_row _ _ 5 _ _ _ n2).trans (show _ = some (.string r.id) from rfl)
          have y6 := (cell_of_row _ _ 6 _ _ _ n2).trans (show _ = some (.string r.va) from rfl)
          have th2 := there_below HD.out.th (stepR B0.out b2) HGW.out
          have thp : w2.there g (off + p * 7) 7 := fun k hk => by
            have := th2 (p * 7 + k) (by have := Nat.mul_le_mul_right 7 (show p + 1 ≤ n by omega); omega)
            rw [show off + p * 7 + k = off + (p * 7 + k) by omega]
            exact this
          have THP := Lib.hid thp
          have hpn : (p : Int) < (n : Int) := by omega
          have hpn' : p < n := by omega
          have ONE0 : Hid ((#[.int .u64 (r.lsn : Int), .int .u32 (r.ep : Int), .int .i64 r.kind, .int .u64 (r.ver : Int), .int .u64 (r.dl : Int), .string r.id, .string r.va] : Array Value).all (·.oneCell') = true) := Lib.hid (by simp [Value.oneCell'])
          have INF : Hid ((Try.prog.info? 42).map (·.size) = some (#[.int .u64 (r.lsn : Int), .int .u32 (r.ep : Int), .int .i64 r.kind, .int .u64 (r.ver : Int), .int .u64 (r.dl : Int), .string r.id, .string r.va] : Array Value).size) := Lib.hid (by kernel_rfl)
          have HG2 := Lib.hid (show g < (w2.setCells g (off + p * 7) (encR r)).heap.size from Nat.lt_of_lt_of_le (Nat.lt_of_lt_of_le HGW.out (stepR B0.out b2).size) (below_setCells (B := 0) (Nat.zero_le _) _ _ w2 (Below.refl 0 w2)).size)
          obtain ⟨W3, hW3⟩ : ∃ W, w2.setCells g (off + p * 7) (#[.int .u64 (r.lsn : Int), .int .u32 (r.ep : Int), .int .i64 r.kind, .int .u64 (r.ver : Int), .int .u64 (r.dl : Int), .string r.id, .string r.va] : Array Value).toList = W := ⟨_, rfl⟩
          have HD3 : Hid (DelAt w W3 base g off n l ver (p + 1) (j + 1) (cur.set p r)) := Lib.hid (by rw [← hW3]; exact HD2.out)
          have HG3 : Hid (g < W3.heap.size) := Lib.hid (by rw [← hW3]; exact HG2.out)
          have HW3 := Lib.hid hW3
          clear b2 s0 s1 s2 s3 s4 s5 s6 c0 c1 c2 c3 c4 c5 c6 hd2 n2 th2 thp HD2 HG2 hW3
          go_wp2_with (refine wpList_store_mid rfl 42 _ _ rfl g (off + p * 7) #[.int .u64 (r.lsn : Int), .int .u32 (r.ep : Int), .int .i64 r.kind, .int .u64 (r.ver : Int), .int .u64 (r.dl : Int), .string r.id, .string r.va] rfl rfl THP.out INF.out ONE0.out ?_; rw [HW3.out])
          go_roundw
          case rel => exact ⟨p + 1, j + 1, cur.set p r, by first | rfl | (rw [WP.out]) | go_num, by first | rfl | (rw [WJ.out]) | go_num, HD3.out, HG3.out⟩
          case measure => (try rw [WJ.out]); simp only [intOf, Int.toNat_natCast]; omega
      · obtain rfl : j = n := by omega
        have hlr : ∀ W, Below 0 wr W → True := fun _ _ => trivial
        have ht : l.take j = l := List.take_of_length_le (by have := HN.out; omega)
        have hdone := HD.out.done
        rw [ht] at hdone
        have hpc : p < cap := by have := HCAP.out; omega
        have thp : wr.there g (off + p * 7) ((j - p) * 7) := fun k hk => by
          have := HD.out.th (p * 7 + k) (by have := Nat.sub_mul j p 7; have := Nat.mul_le_mul_right 7 (show p ≤ j by omega); omega)
          rw [show off + p * 7 + k = off + (p * 7 + k) by omega]
          exact this
        obtain ⟨zs, hz, hclr⟩ := clr_R wr g (off + p * 7) (j - p) (cap - p) (by omega) thp
        have s1 := fun W => sl_fromR W g off j cap p (by omega) hpc
        have s2 := fun W => sl_toR W g off j cap p (by omega)
        have lrr : LR 7 encR (wr.setCells g (off + p * 7) zs) (.slice (some ⟨g, off, none⟩) p cap) (uptoL ver l) := by
          have hlen : (uptoL ver l).length = p := by rw [← hdone, List.length_take, HD.out.len]; omega
          refine ⟨_, cap, by rw [hlen], fun _ => by omega, fun k hk => ⟨g, off, rfl, fun q u hu => ?_⟩⟩
          have hkp : k < p := by omega
          have hkc : k < cur.length := by rw [HD.out.len]; omega
          have e : (uptoL ver l)[k] = cur[k] := by
            have h2 : (cur.take p)[k]? = (uptoL ver l)[k]? := by rw [hdone]
            rw [List.getElem?_take_of_lt hkp, List.getElem?_eq_getElem hkc, List.getElem?_eq_getElem hk] at h2
            exact (Option.some.inj h2).symm
          rw [e] at hu
          exact World.rangeAt_setCells_apart (HD.out.rows k hkc) g (off + p * 7) zs (Or.inr (Or.inl (by show off + k * 7 + 7 ≤ _; omega))) q u hu
        have HLR := Lib.hid lrr
        have HBE := Lib.hid (below_setCells HG.out zs (off + p * 7) wr HD.out.bel)
        clear lrr thp hlr ht hdone hz hlt
        go_wp2_with fail
        go_ret
        exact ⟨⟨_, rfl, HLR.out⟩, HBE.out⟩
end Go.Proofs.Ytlnhdbbhlcpkbaa.G
