/- The document's store: destroy. -/
import Derived.Test.YtmbidannodelfaaQf
namespace Go.Proofs.Ytmbidannodelfaa.G
open Go.RowKit Go.Maps Go.Proofs.Ytmbidannodelfaa.WordPlain Go.Proofs.Ytmbidannodelfaa.Loose
set_option linter.unusedVariables false
set_option linter.unusedSimpArgs false

theorem wpList_append_run {P : Program} {ops : Array Oper} {rest : List Oper} {o : Oper} {a : Go.Act} {w : World} {Q : Exit → Go.Act → World → Prop} (hw : Region.wanted o (yielded ops a.tmps) = true) (s x : Operand) (t : TypeId)
    (ho : o.op = .call { callee := .builtin .append, args := #[s, x], argTypes := #[t, t] }) (v1 v2 v : Value) (w' : World) (hs : a.eval s = v1) (hx : a.eval x = v2)
    (hr : (Builtin.append_ #[t, t] o.type #[v1, v2]).run P w = .ok v w') (h : wpList P ops Q rest (a.put o.dst v) w') : wpList P ops Q (o :: rest) a w :=
  wpList_step fun K hK => by
    rw [if_pos hw]
    unfold Oper.wp execOp
    simp only [ho, resolve, invoke, builtin, Sem.run_bind, Sem.run_pure, Result.andThen_ok, List.map_toArray, List.map_cons, List.map_nil, hs, hx, hr]
    exact hK _ _ h
theorem encS_len (x : Ses) : (encS x).length = 3 := rfl
theorem flat_len (l : List Ses) : (l.flatMap encS).length = l.length * 3 := by
  induction l with
  | nil => rfl
  | cons a l ih => rw [List.flatMap_cons, List.length_append, ih, encS_len, List.length_cons]; omega
theorem encS_one (l : List Ses) : ∀ u ∈ l.flatMap encS, u.oneCell' = true := by
  intro u hu
  obtain ⟨s, _, h⟩ := List.mem_flatMap.1 hu
  simp only [encS, List.mem_cons, List.not_mem_nil, or_false] at h
  rcases h with rfl | rfl | rfl <;> rfl
/-- sessions that lie somewhere are put behind those of an own row -/
theorem own_app (W : World) (base : Nat) (v : Value) (l : List Ses) (b off mm c : Nat) (M : List Ses) (hown : OwnL base 79 3 encS W v l) (hM : mm = M.length)
    (hc : ∀ i (h : i < M.length) j u, (encS M[i])[j]? = some u → W.cell? ⟨b, off + i * 3 + j, none⟩ = some u) (h6 : l.length + M.length ≤ 1000000) (hb : base ≤ W.heap.size) :
    ∃ v' w', (Builtin.append_ #[27, 27] 27 #[v, .slice (some ⟨b, off, none⟩) mm c]).run Try.prog W = .ok v' w' ∧ OwnL base 79 3 encS w' v' (l ++ M) ∧ Below base W w' := by
  obtain ⟨ii, zz, i1, i2, i3, i4, i5⟩ := ses2_info
  subst hM
  obtain ⟨v', w', hr, ho, hg, _, _⟩ := run_append_own_at (P := Try.prog) W base 27 27 79 ii zz 3 40 Try.underlying27 i1 i2 i3 i4 i5 (by decide) v l.length (l.flatMap encS) hown ⟨b, off, none⟩ M.length c (M.flatMap encS) (flat_len M)
    (fun j u hu => by
      have hj : j < M.length * 3 := by
        rcases Nat.lt_or_ge j (M.flatMap encS).length with h | h
        · rw [flat_len] at h; exact h
        · rw [List.getElem?_eq_none h] at hu; cases hu
      have hi : j / 3 < M.length := by omega
      have e := flat_at 3 encS encS_len M (j / 3) (j % 3) hi (Nat.mod_lt _ (by decide))
      rw [show j / 3 * 3 + j % 3 = j by omega, hu] at e
      rw [add_noneR, show off + j = off + j / 3 * 3 + j % 3 by omega]
      exact hc _ hi _ _ e.symm) (encS_one M) (by simp only [maxLen]; omega) (by omega) hb
  refine ⟨v', w', hr, ?_, below_grownR hg (fun k hk => (own_geR hown k hk).1) hb⟩
  show w'.ownsRow _ _ _ _ (l ++ M).length ((l ++ M).flatMap encS)
  rw [List.length_append, List.flatMap_append]
  exact ho

set_option maxRecDepth 100000 in
set_option maxHeartbeats 4000000 in
theorem rDo_destroy (w : World) (P now d : Nat) (q : Int) (L : List Ses) (r : Rq) (m : Nat) (hm : m < L.length) (s : Ses) (hs : s = L[m]) (h : RPl w P now q L) (hr : r.Kind) (hnow : now < 18446744073709551616) (hl : L.length ≤ 100000) (hd : d = ddl now r) (hve : validE r = 0) (hk : r.kind = 4) (hf : ∀ W, RPl W P now q L → Calls Try.prog 35 #[.pointer (some ⟨P, 0, none⟩), .string r.id] W fun e w' => e = .returned (.int .i64 (m : Int)) ∧ Below W.heap.size W w') :
    Calls Try.prog 15 #[.pointer (some ⟨P, 0, none⟩), .agg r.row] w fun e w' => e = .returned (.agg (Rp.bad 0).row) ∧ RPl w' P now q (L.take m ++ L.drop (m + 1)) ∧ Mp P P w w' := by
  have hst := RSt.start (r := r) h
  have hval := fun W => rValid_val r W hr
  rw [hve] at hval
  have htk := fun W => rTicks_val r.ttl W hr.ttl
  have hla := fun W => rLater_val now (F.tickV r.ttl) d W hnow (tickV_lt _) (Lib.hid hd)
  obtain ⟨tv, htv⟩ : ∃ x, x = F.tickV r.ttl := ⟨_, rfl⟩
  obtain ⟨te, hte⟩ : ∃ x, x = F.tickE r.ttl := ⟨_, rfl⟩
  simp only [← htv, ← hte] at htk hla
  clear htv hte hve hd hr hnow
  obtain ⟨k, i, v, x⟩ := r
  simp only [Rq.row, Rp.row, Rp.bad] at hst hval htk hf hk ⊢
  subst hk
  have ST := Lib.hid hst
  have HV := Lib.hid hval
  have HTK := Lib.hid htk
  have HLA := Lib.hid hla
  have HF := Lib.hid hf
  have HL := Lib.hid hl
  clear h hst hval htk hla hf hl
  go_enter Try.func15, Try.ntmps15
  go_wp2_with fail
  refine (HV.out _).mono ?_; rintro e w2 ⟨rfl, b2⟩
  have s2 := ST.out.below b2
  have S2 := Lib.hid s2
  clear b2 s2
  obtain ⟨c0, c1, c2, c3⟩ := S2.out.cells
  go_wp2_with fail
  clear c0 c1 c2 c3
  refine (HF.out _ S2.out.pl).mono ?_; rintro e w3 ⟨rfl, b3⟩
  have s3 := S2.out.below b3
  have S3 := Lib.hid s3
  clear b3 s3 S2 ST HV
  obtain ⟨c0, c1, c2, c3⟩ := S3.out.cells
  obtain ⟨vl, hrow, hlr⟩ := S3.out.pl
  obtain ⟨oa, cap, hvl, hc0, hx⟩ := hlr
  obtain ⟨n, hn⟩ : ∃ n, n = L.length := ⟨_, rfl⟩
  rw [← hn] at hvl
  subst hvl
  have p0 := (cell_of_row _ _ 0 _ _ _ hrow).trans (show _ = some (.int .u64 (now : Int)) from rfl)
  have HX := Lib.hid hx
  have HN := Lib.hid hn
  have HR := Lib.hid hrow
  have HC0 := Lib.hid hc0
  clear hx hn hrow hc0
  go_wp2_with fail
  refine (HTK.out _).mono ?_; rintro e w4 ⟨rfl, rfl⟩
  go_wp2_with fail
  refine (HLA.out _).mono ?_; rintro e w4 ⟨rfl, rfl⟩
  obtain ⟨b', off, hoa, hcell⟩ := HX.out m hm
  have hmn : m < n := by have := HN.out; omega
  rw [← hs] at hcell
  obtain ⟨xi, xv, xd⟩ := s
  simp only at *
  have x0 := hcell 0 _ rfl
  have x1 := hcell 1 _ rfl
  have x2 := hcell 2 _ rfl
  rw [Nat.add_zero] at x0
  subst hoa
  have p2 := (cell_of_row _ _ 2 _ _ _ HR.out).trans (show _ = some (.slice (some ⟨b', off, none⟩) n cap) from rfl)
  have HS := Lib.hid hs
  have HM := Lib.hid hm
  have s4 := S3.out.below ((Below.refl w3.heap.size w3).alloc (Nat.le_refl _) (.cells #[.string xi, .string xv, .int .u64 (xd : Int)] 79))
  have n4 := heap_alloc_new w3 (.cells #[.string xi, .string xv, .int .u64 (xd : Int)] 79)
  have S4 := Lib.hid s4
  have N4 := Lib.hid n4
  clear hcell hs s4 n4
  obtain ⟨a0, a1, a2, a3⟩ := S4.out.cells
  have X0 := Lib.hid (show n = L.length from HN.out)
  obtain ⟨W4, hW4⟩ : ∃ W, W = (w3.alloc (.cells #[.string xi, .string xv, .int .u64 (xd : Int)] 79)) := ⟨_, rfl⟩
  have hz4 : W4.heap.size = w3.heap.size + 1 := by rw [hW4, alloc_sizeR]
  have b34 : Below w3.heap.size w3 W4 := by rw [hW4]; exact (Below.refl w3.heap.size w3).alloc (Nat.le_refl _) _
  have own0 := own_new W4 79 3 encS W4.heap.size (Nat.le_refl _)
  have b45 := (Below.refl W4.heap.size W4).alloc (Nat.le_refl _) (.cells #[] 79)
  obtain ⟨W5, hW5⟩ : ∃ W, W = W4.alloc (.cells #[] 79) := ⟨_, rfl⟩
  rw [← hW5] at own0 b45
  have b35 := stepR b34 b45
  have h35 := Lib.hid b35
  have ht : (L.take m).length = m := by rw [List.length_take]; have := HM.out; omega
  have hcA : ∀ W, Below w3.heap.size w3 W → ∀ i (h : i < L.length) j u, (encS L[i])[j]? = some u → W.cell? ⟨b', off + i * 3 + j, none⟩ = some u := by
    intro W hW i hi j u hu
    obtain ⟨b2, off2, e1, e2⟩ := HX.out i hi
    injection e1 with e1; injection e1 with e3 e4; subst e3 e4
    have h := e2 j u hu
    exact (hW.cell (p := ⟨b', off + i * 3 + j, none⟩) (lt_of_cellR h)).trans h
  obtain ⟨v6, w6, hr6, own6, b56⟩ := own_app W5 W4.heap.size _ [] b' off m cap (L.take m) own0 ht.symm (fun i hi j u hu => by
    rw [List.getElem_take] at hu
    exact hcA W5 b35 i (by rw [List.length_take] at hi; omega) j u hu) (by simp only [List.length_nil, ht]; have := HM.out; have := HL.out; omega) b45.size
  rw [List.nil_append] at own6
  have b36 : Below w3.heap.size w3 w6 := b35.trans (b56.mono (by omega))
  have hd7 : (L.drop (m + 1)).length = n - (m + 1) := by rw [List.length_drop]; have := HN.out; omega
  have hnc0 : n ≤ cap := by
    rw [HN.out]
    exact HC0.out (fun e => by have := HM.out; rw [e] at this; exact absurd this (Nat.not_lt_zero _))
  have HW1 : wrap64 ((m : Int) + 1) = (m : Int) + 1 := IntWalk.wrap64_in _ (by have := HL.out; have := HM.out; omega)
  have HW2 : IntKind.i64.wrap ((m : Int) + 1) = (m : Int) + 1 := IntWalk.i64_in _ (by have := HL.out; have := HM.out; omega)
  by_cases hcm : cap = m + 1
  · have hcF : (cap = m + 1) = True := eq_true hcm
    obtain ⟨v7, w7, hr7, own7, b67⟩ := own_app w6 W4.heap.size v6 (L.take m) b' off (n - (m + 1)) (cap - (m + 1)) (L.drop (m + 1)) own6 hd7.symm (fun i hi j u hu => by
      exact absurd hi (by rw [hd7]; omega)) (by rw [ht, hd7]; have := HN.out; have := HL.out; omega) (Nat.le_trans b45.size b56.size)
    have b37 : Below w3.heap.size w3 w7 := b36.trans (b67.mono (by omega))
    have hl7 := own_lr (k := 3) (enc := encS) (fun _ => rfl) own7
    obtain ⟨o7, c7, hv7⟩ := hl7.form
    obtain ⟨n7, hn7⟩ : ∃ m', m' = (L.take m ++ L.drop (m + 1)).length := ⟨_, rfl⟩
    rw [← hn7] at hv7
    subst hv7
    have hrow7 := (b37.block _ (lt_of_rowR HR.out)).trans HR.out
    have set7 := RPl.set hrow7 hl7
    have s7 := S3.out.below b37
    have hp := s7.hp
    have s8 : RSt w P now q (L.take m ++ L.drop (m + 1)) _ (w7.setCell ⟨P, 2, none⟩ (.slice o7 n7 c7)) := ⟨(heap_setCell_other _ _ _ _ (by show w.heap.size ≠ P; omega)).trans s7.rq, (heap_setCell_other _ _ _ _ (by show w.heap.size + 1 ≠ P; omega)).trans s7.rp, set7, s7.mp.self, hp⟩
    have S8 := Lib.hid s8
    have p26 := (cell_of_row _ _ 2 _ _ _ ((b36.block _ (lt_of_rowR HR.out)).trans HR.out)).trans (show _ = some (.slice (some ⟨b', off, none⟩) n cap) from rfl)
    have p27 := (cell_of_row _ _ 2 _ _ _ hrow7).trans (show _ = some (.slice (some ⟨b', off, none⟩) n cap) from rfl)
    have p25 := (cell_of_row _ _ 2 _ _ _ ((b35.block _ (lt_of_rowR HR.out)).trans HR.out)).trans (show _ = some (.slice (some ⟨b', off, none⟩) n cap) from rfl)
    have fz := frozen_of_row w7 P 2 _ _ hrow7
    have hww : W5 = ((w3.alloc (.cells #[.string xi, .string xv, .int .u64 (xd : Int)] 79))).alloc (.cells #[] 79) := by rw [hW5, hW4]
    rw [hww, hz4] at hr6
    rw [hww] at p25
    have HR6 := Lib.hid hr6
    have HR7 := Lib.hid hr7
    have HWW : Hid (((w3.alloc (.cells #[.string xi, .string xv, .int .u64 (xd : Int)] 79))).alloc (.cells #[] 79) = W5) := Lib.hid (by rw [hW5, hW4])
    have HNC : Hid (n ≤ cap) := Lib.hid (by
      rw [HN.out]
      exact HC0.out (fun e => by have := HM.out; rw [e] at this; exact absurd this (Nat.not_lt_zero _)))
    have hnc := HNC.out
    clear hrow7 set7 s7 hp s8 hl7 hr6 hr7 own6 own7 b36 b37 b56 b67 b35 b45 own0 hW5 hww hn7 hd7 hcA ht b34 hz4 hW4 h35
    have ONE : Hid ((#[.int .i64 0, .string ⟨#[]⟩, .int .u64 0] : Array Value).all (·.oneCell') = true) := Lib.hid (by simp [Value.oneCell'])
    have hrow := setRow_heap (w7.setCell ⟨P, 2, none⟩ (.slice o7 n7 c7)) (w.heap.size + 1) _ #[.int .i64 0, .string ⟨#[]⟩, .int .u64 0] _ _ S8.out.rp
    have HROW := Lib.hid hrow
    clear hrow
    go_wp2_with (first | (at_builtin; first | (refine wpList_append_run rfl _ _ 27 rfl _ _ _ _ rfl rfl HR6.out ?_; clear HR6) | refine wpList_append_run rfl _ _ 27 rfl _ _ _ _ rfl rfl HR7.out ?_) | refine wpList_store_row rfl 39 _ _ rfl (w.heap.size + 1) #[.int .i64 0, .string ⟨#[]⟩, .int .u64 0] rfl rfl _ _ S8.out.rp (by kernel_rfl) rfl ONE.out ?_)
    refine bodyPost_ret (v := .agg #[.int .i64 0, .string ⟨#[]⟩, .int .u64 0]) ?_ rfl ⟨rfl, S8.out.fin _⟩
    exact results_cell_row (p := 4) (ty := 39) rfl _ _ (w.heap.size + 1) 39 _ (0, 0) _ rfl HROW.out Try.underlying39 rfl (by kernel_rfl)
  · have hcF : (cap = m + 1) = False := eq_false hcm
    obtain ⟨v7, w7, hr7, own7, b67⟩ := own_app w6 W4.heap.size v6 (L.take m) b' (off + (m + 1) * 3) (n - (m + 1)) (cap - (m + 1)) (L.drop (m + 1)) own6 hd7.symm (fun i hi j u hu => by
      rw [List.getElem_drop] at hu
      rw [show off + (m + 1) * 3 + i * 3 + j = off + (m + 1 + i) * 3 + j by omega]
      exact hcA w6 b36 (m + 1 + i) (by rw [List.length_drop] at hi; omega) j u hu) (by rw [ht, hd7]; have := HN.out; have := HL.out; omega) (Nat.le_trans b45.size b56.size)
    have b37 : Below w3.heap.size w3 w7 := b36.trans (b67.mono (by omega))
    have hl7 := own_lr (k := 3) (enc := encS) (fun _ => rfl) own7
    obtain ⟨o7, c7, hv7⟩ := hl7.form
    obtain ⟨n7, hn7⟩ : ∃ m', m' = (L.take m ++ L.drop (m + 1)).length := ⟨_, rfl⟩
    rw [← hn7] at hv7
    subst hv7
    have hrow7 := (b37.block _ (lt_of_rowR HR.out)).trans HR.out
    have set7 := RPl.set hrow7 hl7
    have s7 := S3.out.below b37
    have hp := s7.hp
    have s8 : RSt w P now q (L.take m ++ L.drop (m + 1)) _ (w7.setCell ⟨P, 2, none⟩ (.slice o7 n7 c7)) := ⟨(heap_setCell_other _ _ _ _ (by show w.heap.size ≠ P; omega)).trans s7.rq, (heap_setCell_other _ _ _ _ (by show w.heap.size + 1 ≠ P; omega)).trans s7.rp, set7, s7.mp.self, hp⟩
    have S8 := Lib.hid s8
    have p26 := (cell_of_row _ _ 2 _ _ _ ((b36.block _ (lt_of_rowR HR.out)).trans HR.out)).trans (show _ = some (.slice (some ⟨b', off, none⟩) n cap) from rfl)
    have p27 := (cell_of_row _ _ 2 _ _ _ hrow7).trans (show _ = some (.slice (some ⟨b', off, none⟩) n cap) from rfl)
    have p25 := (cell_of_row _ _ 2 _ _ _ ((b35.block _ (lt_of_rowR HR.out)).trans HR.out)).trans (show _ = some (.slice (some ⟨b', off, none⟩) n cap) from rfl)
    have fz := frozen_of_row w7 P 2 _ _ hrow7
    have hww : W5 = ((w3.alloc (.cells #[.string xi, .string xv, .int .u64 (xd : Int)] 79))).alloc (.cells #[] 79) := by rw [hW5, hW4]
    rw [hww, hz4] at hr6
    rw [hww] at p25
    have HR6 := Lib.hid hr6
    have HR7 := Lib.hid hr7
    have HWW : Hid (((w3.alloc (.cells #[.string xi, .string xv, .int .u64 (xd : Int)] 79))).alloc (.cells #[] 79) = W5) := Lib.hid (by rw [hW5, hW4])
    have HNC : Hid (n ≤ cap) := Lib.hid (by
      rw [HN.out]
      exact HC0.out (fun e => by have := HM.out; rw [e] at this; exact absurd this (Nat.not_lt_zero _)))
    have hnc := HNC.out
    clear hrow7 set7 s7 hp s8 hl7 hr6 hr7 own6 own7 b36 b37 b56 b67 b35 b45 own0 hW5 hww hn7 hd7 hcA ht b34 hz4 hW4 h35
    have ONE : Hid ((#[.int .i64 0, .string ⟨#[]⟩, .int .u64 0] : Array Value).all (·.oneCell') = true) := Lib.hid (by simp [Value.oneCell'])
    have hrow := setRow_heap (w7.setCell ⟨P, 2, none⟩ (.slice o7 n7 c7)) (w.heap.size + 1) _ #[.int .i64 0, .string ⟨#[]⟩, .int .u64 0] _ _ S8.out.rp
    have HROW := Lib.hid hrow
    clear hrow
    go_wp2_with (first | (at_builtin; first | (refine wpList_append_run rfl _ _ 27 rfl _ _ _ _ rfl rfl HR6.out ?_; clear HR6) | refine wpList_append_run rfl _ _ 27 rfl _ _ _ _ rfl rfl HR7.out ?_) | refine wpList_store_row rfl 39 _ _ rfl (w.heap.size + 1) #[.int .i64 0, .string ⟨#[]⟩, .int .u64 0] rfl rfl _ _ S8.out.rp (by kernel_rfl) rfl ONE.out ?_)
    refine bodyPost_ret (v := .agg #[.int .i64 0, .string ⟨#[]⟩, .int .u64 0]) ?_ rfl ⟨rfl, S8.out.fin _⟩
    exact results_cell_row (p := 4) (ty := 39) rfl _ _ (w.heap.size + 1) 39 _ (0, 0) _ rfl HROW.out Try.underlying39 rfl (by kernel_rfl)

end Go.Proofs.Ytmbidannodelfaa.G
