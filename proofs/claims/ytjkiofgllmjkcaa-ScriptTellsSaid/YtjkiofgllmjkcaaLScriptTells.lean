/- ScriptTells: whatever the acts, the bytes and the act, the law answers true. No condition. -/
import Derived.Test.YtjkiofgllmjkcaaTe
import Derived.Test.YtjkiofgllmjkcaaTd
import Derived.Test.YtjkiofgllmjkcaaT9
import Derived.Test.YtjkiofgllmjkcaaSy
import Derived.Test.YtjkiofgllmjkcaaSh
import Derived.Test.YtjkiofgllmjkcaaGFast
import Derived.Maps.RangeWalk
import Derived.BigQuiet
namespace Go.Proofs.Ytjkiofgllmjkcaa.L
open Go.RowKit Go.Proofs.Ytjkiofgllmjkcaa.G Go.Proofs.Ytjkiofgllmjkcaa.WordPlain Go.Proofs.Ytjkiofgllmjkcaa.Loose
set_option linter.unusedVariables false
set_option linter.unusedSimpArgs false

theorem act_row {W : World} {P : Nat} {a : Ac} {oa : Option Addr} {cap : Nat} (h : W.heap[P]? = some (.cells (a.row (.slice oa a.keep.length cap)) 29 (0, 0))) (V : World) (hb : Below W.heap.size W V) : AtC V P 0 a (.slice oa a.keep.length cap) := by
  have h2 := (hb.block _ (lt_of_rowQ h)).trans h
  exact ⟨(cell_of_row _ _ 0 _ _ _ h2).trans rfl, (cell_of_row _ _ 1 _ _ _ h2).trans rfl, (cell_of_row _ _ 2 _ _ _ h2).trans rfl, (cell_of_row _ _ 3 _ _ _ h2).trans rfl, (cell_of_row _ _ 4 _ _ _ h2).trans rfl, (cell_of_row _ _ 5 _ _ _ h2).trans rfl, (cell_of_row _ _ 6 _ _ _ h2).trans rfl, (cell_of_row _ _ 7 _ _ _ h2).trans rfl, (cell_of_row _ _ 8 _ _ _ h2).trans rfl, (cell_of_row _ _ 9 _ _ _ h2).trans rfl⟩
set_option maxRecDepth 100000 in
set_option maxHeartbeats 8000000 in
theorem tells_main (l0 : List Ac) (v : Value) (s : ByteArray) (a0 : Ac) (vk0 : Value) (w : World) (hv : SA w v l0) (hk0 : ∀ a ∈ l0, a.Kind) (hsz : s.size ≤ 140737488351232) (hka : a0.Kind) (hsa : Sb w vk0 a0.keep) :
    Calls Try.prog 3 #[v, .string s, .agg (a0.row vk0)] w fun e w' => e = .returned (.bool true) ∧ Below w.heap.size w w' := by
  obtain ⟨k, hkk⟩ : ∃ k, k = min s.size 400 := ⟨_, rfl⟩
  have hmin : ∀ W, (Builtin.min_ #[3, 3] 3 #[.int .i64 (s.size : Int), .int .i64 400]).run Try.prog W = .ok (.int .i64 (k : Int)) W := by
    intro W
    rw [run_min2, show min (s.size : Int) 400 = (k : Int) from by omega]
  have hks : ¬ (s.size : Int) < (k : Int) := by omega
  have hSk : (s.extract 0 k).size ≤ 400 := by rw [ByteArray.size_extract]; omega
  clear hkk hsz
  obtain ⟨O, hO⟩ : ∃ O, O = Obj.cells (a0.row vk0) 29 := ⟨_, rfl⟩
  have bx := alloc_below w O
  have nx := heap_alloc_new w O
  have hC := Cuts_val2 l0 12 v (w.alloc O) (by omega) (hv.below bx (Nat.le_refl _))
  have hl12 := cuts_len l0 12
  have hkl := cuts_kind l0 12 hk0
  obtain ⟨uk, suk, CUT⟩ := Cut_val a0 vk0 w hsa
  have hka2 := hka.cut
  obtain ⟨l, hl⟩ : ∃ l, l = cuts l0 12 := ⟨_, rfl⟩
  rw [← hl] at hC hl12 hkl
  obtain ⟨a, ha⟩ : ∃ a, a = a0.cut := ⟨_, rfl⟩
  rw [← ha] at suk CUT hka2
  obtain ⟨oav, capv, rfl⟩ := hv.form
  obtain ⟨oa0, cap0, rfl⟩ := hsa.form
  obtain ⟨oa, cap, rfl⟩ := suk.form
  have hsO : (w.alloc O).heap.size = w.heap.size + 1 := alloc_sizeQ _ _
  rw [hO] at nx
  have HNX := Lib.hid nx
  have HBX := Lib.hid bx
  have HSO := Lib.hid hsO
  have HC := Lib.hid hC
  have KL := Lib.hid hkl
  have KA := Lib.hid hka2
  have L12 := Lib.hid hl12
  have HSK := Lib.hid hSk
  have CUT := Lib.hid CUT
  have SUK := Lib.hid suk
  have HO := Lib.hid hO
  have sf := store_floatS
  clear hC hkl hl12 hl hk0 hv hSk hka hka2 hsa suk ha nx bx hsO hO
  go_enter Try.func3, Try.ntmps3
  go_wp2_with fail
  rw [← HO.out]
  refine (HC.out).mono ?_; rintro e w1 ⟨⟨u, rfl, su, ou⟩, b1⟩
  have hP1 : w1.heap[w.heap.size]? = some (.cells (a0.row (.slice oa0 a0.keep.length cap0)) 29 (0, 0)) := (b1.block _ (by rw [HSO.out]; exact Nat.lt_succ_self _)).trans (by rw [HO.out]; exact HNX.out)
  obtain ⟨c0, c1, c2, c3, c4, c5, c6, c7, c8, c9⟩ := act_row hP1 w1 (Below.refl _ _)
  have SU := Lib.hid su
  have OU := Lib.hid ou
  have B1 := Lib.hid b1
  have HP1 := Lib.hid hP1
  clear su ou b1 hP1
  go_wp2_with fail
  obtain ⟨S, hS0⟩ : ∃ S, S = s.extract 0 k := ⟨_, rfl⟩
  rw [← hS0] at HSK
  simp only [← hS0]
  clear hS0 hmin hks
  refine (CUT.out _).mono ?_; rintro e w2 ⟨rfl, b2⟩
  have hP2 := (b2.block _ (lt_of_rowQ HP1.out)).trans HP1.out
  have hP3 := setRow_heap w2 w.heap.size _ (a.row (.slice oa a.keep.length cap)) _ _ hP2
  have su3 := (SU.out.below b2 (Nat.le_refl _)).move (V := w2.setRow w.heap.size (a.row (.slice oa a.keep.length cap))) hP2 (fun i _ hn => setRow_otherQ _ _ _ _ hn) (fun k hk e => by have := OU.out k hk; have := HSO.out; omega)
  have b3 : Below w.heap.size w (w2.setRow w.heap.size (a.row (.slice oa a.keep.length cap))) := by
    have b := stepQ (stepQ HBX.out B1.out) b2
    exact ⟨b.os, b.tape, b.output, by rw [setRow_sizeQ]; exact b.size, fun i hi => (setRow_otherQ _ _ _ _ (by omega)).trans (b.block i hi)⟩
  obtain ⟨W3, hW3⟩ : ∃ W, W = w2.setRow w.heap.size (a.row (.slice oa a.keep.length cap)) := ⟨_, rfl⟩
  rw [← hW3] at hP3 su3 b3
  have ONE0 : Hid ((a.row (.slice oa a.keep.length cap)).all (·.oneCell') = true) := Lib.hid (by simp [Ac.row, Value.oneCell'])
  have HP2 := Lib.hid hP2
  have HP3 := Lib.hid hP3
  have B3 := Lib.hid b3
  have SU3 := Lib.hid su3
  have HW3 := Lib.hid hW3
  clear c0 c1 c2 c3 c4 c5 c6 c7 c8 c9 b2 hP2 hP3 su3 b3 hW3
  unfold Ac.row at HP2 ONE0 HW3
  go_wp2_with (first | refine wpList_store_row rfl 29 _ _ rfl w.heap.size #[.int .i64 a.kind, .int .i64 a.rk, .string a.id, .string a.va, .float .f64 a.ttl, .int .i64 a.pick, .int .u64 a.n, .slice oa a.keep.length cap, .int .i64 a.torn, .int .i64 a.pl] rfl rfl _ _ HP2.out (by kernel_rfl) rfl ONE0.out ?_ | fail)
  rw [← HW3.out]
  obtain ⟨ou, cu, hu⟩ := SU3.out.form
  obtain ⟨n, hn⟩ : ∃ n, n = l.length := ⟨_, rfl⟩
  have N12 : n ≤ 12 := by rw [hn]; exact L12.out
  have HN := Lib.hid hn
  have en := Encode_val l u W3 (by have := L12.out; omega) KL.out SU3.out
  have RE := Lib.hid (fun W v h => rEncode_val l v W (by have := L12.out; omega) KL.out h)
  obtain ⟨z, hz⟩ : ∃ z, z = encV l := ⟨_, rfl⟩
  obtain ⟨ze, hze⟩ : ∃ z, z = encE l := ⟨_, rfl⟩
  rw [← hz, ← hze] at en RE
  have EN := Lib.hid en
  have es : (⟨S.data.toList.toArray⟩ : ByteArray) = S := rfl
  have hS6 : S.data.toList.length ≤ 1000000 := by have := HSK.out; have e : S.data.toList.length = S.size := rfl; omega
  have DS := fun W => Decode_val S.data.toList W hS6
  have RDS := fun W => rDecode_val S S.data.toList es.symm W (by have := HSK.out; omega)
  have hdl : (decA S).length ≤ 1000000 := by
    rcases decX_cases S with hX | ⟨hA, _⟩
    · have := dec_len S hX 400 HSK.out; omega
    · rw [hA]; exact Nat.zero_le _
  rw [es] at DS
  obtain ⟨M, hM⟩ : ∃ M, M = decA S := ⟨_, rfl⟩
  obtain ⟨x, hx⟩ : ∃ x, x = decX S := ⟨_, rfl⟩
  rw [← hM, ← hx] at DS
  simp only [← hM, ← hx] at RDS
  rw [← hM] at hdl
  have DS := Lib.hid DS
  have RDS := Lib.hid RDS
  have HDL := Lib.hid hdl
  clear en hz hze es hS6 hdl hM hx
  rw [hu, ← hn]
  rw [hu, ← hn] at EN
  refine EN.out.mono ?_; rintro e w4 ⟨rfl, b4⟩
  have su4 := SU3.out.below b4 (Nat.le_refl _)
  have SU4 := Lib.hid su4
  have BB := Lib.hid b4
  have rf := Refs_val l u w4 (by have := L12.out; omega) su4
  rw [hu, ← hn] at rf
  have RF := Lib.hid rf
  clear rf su4 b4 hn
  have HU := Lib.hid hu
  clear hu
  go_wp2_with fail
  refine RF.out.mono ?_; rintro e w5 ⟨⟨v5, rfl, s5⟩, b5⟩
  have EN5 := Lib.hid (RE.out w5 v5 s5)
  have BB := Lib.hid (stepQ BB.out b5)
  clear s5 b5 RF EN
  go_wp2_with fail
  refine EN5.out.mono ?_; rintro e w6 ⟨rfl, b6⟩
  have BB := Lib.hid (stepQ BB.out b6)
  clear b6 EN5
  go_wp2_with fail
  refine (DS.out _).mono ?_; rintro e w7 ⟨⟨vm, rfl, sm⟩, b7⟩
  have SM := Lib.hid sm
  have BB := Lib.hid (stepQ BB.out b7)
  clear sm b7
  go_wp2_with fail
  refine (RDS.out _).mono ?_; rintro e w8 ⟨⟨vn, rfl, sn⟩, b8, kd⟩
  have sm8 := SM.out.below b8 (Nat.le_refl _)
  obtain ⟨om, cm, hvm⟩ := sm8.form
  obtain ⟨on, cn, hvn⟩ := sn.form
  subst hvm hvn
  have SM8 := Lib.hid sm8
  have SN8 := Lib.hid sn
  have KD := Lib.hid kd
  have BB := Lib.hid (stepQ BB.out b8)
  have B8 := Lib.hid (below_step B3.out BB.out)
  have SU8 := Lib.hid (SU3.out.below BB.out (Nat.le_refl _))
  clear b8 sn sm8 kd SM
  have AR := Lib.hid (fun W (h : Below w8.heap.size w8 W) => act_row HP3.out W (stepQ BB.out h))
  have r0 : ∀ W, Below w8.heap.size w8 W → W.cell? ⟨w.heap.size, 0, none⟩ = some (.int .i64 a.kind) := fun W h => (AR.out W h).1
  have r1 : ∀ W, Below w8.heap.size w8 W → W.cell? ⟨w.heap.size, 1, none⟩ = some (.int .i64 a.rk) := fun W h => (AR.out W h).2.1
  have r2 : ∀ W, Below w8.heap.size w8 W → W.cell? ⟨w.heap.size, 2, none⟩ = some (.string a.id) := fun W h => (AR.out W h).2.2.1
  have r3 : ∀ W, Below w8.heap.size w8 W → W.cell? ⟨w.heap.size, 3, none⟩ = some (.string a.va) := fun W h => (AR.out W h).2.2.2.1
  have r4 : ∀ W, Below w8.heap.size w8 W → W.cell? ⟨w.heap.size, 4, none⟩ = some (.float .f64 a.ttl) := fun W h => (AR.out W h).2.2.2.2.1
  have r5 : ∀ W, Below w8.heap.size w8 W → W.cell? ⟨w.heap.size, 5, none⟩ = some (.int .i64 a.pick) := fun W h => (AR.out W h).2.2.2.2.2.1
  have r6 : ∀ W, Below w8.heap.size w8 W → W.cell? ⟨w.heap.size, 6, none⟩ = some (.int .u64 a.n) := fun W h => (AR.out W h).2.2.2.2.2.2.1
  have r7 : ∀ W, Below w8.heap.size w8 W → W.cell? ⟨w.heap.size, 7, none⟩ = some (.slice oa a.keep.length cap) := fun W h => (AR.out W h).2.2.2.2.2.2.2.1
  have r8 : ∀ W, Below w8.heap.size w8 W → W.cell? ⟨w.heap.size, 8, none⟩ = some (.int .i64 a.torn) := fun W h => (AR.out W h).2.2.2.2.2.2.2.2.1
  have r9 : ∀ W, Below w8.heap.size w8 W → W.cell? ⟨w.heap.size, 9, none⟩ = some (.int .i64 a.pl) := fun W h => (AR.out W h).2.2.2.2.2.2.2.2.2
  have SB8 := Lib.hid (fun W (h : Below w8.heap.size w8 W) => SUK.out.below (below_step B8.out h) (Nat.le_refl _))
  obtain ⟨zr, hzr⟩ : ∃ z, z = decide a.Right := ⟨_, rfl⟩
  have rt := fun W h => Right_val a _ W KA.out.keep (SB8.out W h)
  have rrt := fun W => rRight_val a oa cap W
  have rfa := fun W h => Ref_val a _ W (SB8.out W h)
  rw [← hzr] at rt rrt
  unfold Ac.row at rt rrt rfa
  have RT := Lib.hid rt
  have RRT := Lib.hid rrt
  have RFA := Lib.hid rfa
  have q0 : (z.toList == z.toList) = true := beq_self_eq_true _
  have q1 : (ze == ze) = true := beq_self_eq_true _
  have q2 : (x == x) = true := beq_self_eq_true _
  have q3 : (zr == zr) = true := beq_self_eq_true _
  clear rt rrt rfa hzr
  go_wp2_with fail
  refine wp_region_loose_fast (by kernel_rfl) (by kernel_rfl) ?_
  refine wpL_det ?_
  apply Exists.intro
  refine ⟨?_, ?_⟩
  · intro vs w' hC hk
    (try simp [Know.add, depOn, Region.binds] at hk)
    go_simp
    exact ⟨Below.refl _ _, rfl⟩
  refine wpL_det ?_
  apply Exists.intro
  refine ⟨?_, ?_⟩
  · intro vs w' hC hk
    (try simp [Know.add, depOn, Region.binds] at hk)
    go_simp
    exact ⟨Below.refl _ _, rfl⟩
  refine wpL_det ?_
  apply Exists.intro
  refine ⟨?_, ?_⟩
  · intro vs w' hC hk
    (try simp [Know.add, depOn, Region.binds] at hk)
    go_simp
    exact ⟨Below.refl _ _, rfl⟩
  refine wpL_det ?_
  apply Exists.intro
  refine ⟨?_, ?_⟩
  · intro vs w' hC hk
    (try simp [Know.add, depOn, Region.binds] at hk)
    go_simp
    exact ⟨Below.refl _ _, rfl⟩
  refine wpL_det ?_
  apply Exists.intro
  refine ⟨?_, ?_⟩
  · intro vs w' hC hk
    (try simp [Know.add, depOn, Region.binds] at hk)
    go_simp
    exact ⟨Below.refl _ _, rfl⟩
  refine wpL_det ?_
  apply Exists.intro
  refine ⟨?_, ?_⟩
  · intro vs w' hC hk
    (try simp [Know.add, depOn, Region.binds] at hk)
    go_simp
    exact ⟨Below.refl _ _, rfl⟩
  refine wpL_det ?_
  apply Exists.intro
  refine ⟨?_, ?_⟩
  · intro vs w' hC hk
    (try simp [Know.add, depOn, Region.binds] at hk)
    go_simp
    exact ⟨Below.refl _ _, rfl⟩
  refine wpL_det ?_
  apply Exists.intro
  refine ⟨?_, ?_⟩
  · intro vs w' hC hk
    (try simp [Know.add, depOn, Region.binds] at hk)
    go_simp
    exact ⟨Below.refl _ _, rfl⟩
  refine wpL_det ?_
  apply Exists.intro
  refine ⟨?_, ?_⟩
  · intro vs w' hC hk
    (try simp [Know.add, depOn, Region.binds] at hk)
    go_simp
    exact ⟨Below.refl _ _, rfl⟩
  refine wpL_det ?_
  apply Exists.intro
  refine ⟨?_, ?_⟩
  · intro vs w' hC hk
    (try simp [Know.add, depOn, Region.binds] at hk)
    go_simp
    exact ⟨Below.refl _ _, rfl⟩
  refine wpL_step (fun u V => SA V u M) (stab_SA2 M) ?_ ?_
  · intro vs w' hC hk
    (try simp [Know.add, depOn, Region.binds] at hk)
    go_simp
    refine (Refs_val M _ w' HDL.out (SM8.out.below hC (Nat.le_refl _))).mono ?_
    rintro e w'' ⟨⟨u, rfl, hs⟩, hb⟩
    exact ⟨u, rfl, hb, hs⟩
  refine wpL_det ?_
  apply Exists.intro
  refine ⟨?_, ?_⟩
  · intro vs w' hC hk
    (try simp [Know.add, depOn, Region.binds] at hk)
    go_simp
    exact ⟨Below.refl _ _, rfl⟩
  refine wpL_det ?_
  apply Exists.intro
  refine ⟨?_, ?_⟩
  · intro vs w' hC hk
    have hA : SA w' (vs 10) M := hk.1.2 (by kernel_rfl)
    have hB := SN8.out.below hC (Nat.le_refl _)
    have al := All_val M M _ _ w' HDL.out (fun a ha => (KD.out a ha).keep) hA hB
    rw [show decide (M = M) = true from decide_eq_true rfl] at al
    (try simp [Know.add, depOn, Region.binds] at hk)
    go_simp
    refine al.mono ?_
    rintro e w'' ⟨rfl, hb⟩
    first | exact ⟨rfl, hb⟩ | exact ⟨_, rfl, hb, rfl⟩
  refine wpL_det ?_
  apply Exists.intro
  refine ⟨?_, ?_⟩
  · intro vs w' hC hk
    (try simp [Know.add, depOn, Region.binds] at hk)
    go_simp
    exact ⟨Below.refl _ _, rfl⟩
  refine wpL_det ?_
  apply Exists.intro
  refine ⟨?_, ?_⟩
  · intro vs w' hC hk
    (try simp [Know.add, depOn, Region.binds] at hk)
    go_simp
    exact ⟨Below.refl _ _, rfl⟩
  refine wpL_det ?_
  apply Exists.intro
  refine ⟨?_, ?_⟩
  · intro vs w' hC hk
    (try simp [Know.add, depOn, Region.binds] at hk)
    go_simp
    exact ⟨Below.refl _ _, rfl⟩
  refine wpL_det ?_
  apply Exists.intro
  refine ⟨?_, ?_⟩
  · intro vs w' hC hk
    (try simp [Know.add, depOn, Region.binds] at hk)
    go_simp
    exact ⟨Below.refl _ _, rfl⟩
  refine wpL_det ?_
  apply Exists.intro
  refine ⟨?_, ?_⟩
  · intro vs w' hC hk
    (try simp [Know.add, depOn, Region.binds] at hk)
    go_simp
    exact ⟨Below.refl _ _, rfl⟩
  refine wpL_det ?_
  apply Exists.intro
  refine ⟨?_, ?_⟩
  · intro vs w' hC hk
    (try simp [Know.add, depOn, Region.binds] at hk)
    go_simp
    exact ⟨Below.refl _ _, rfl⟩
  refine wpL_det ?_
  apply Exists.intro
  refine ⟨?_, ?_⟩
  · intro vs w' hC hk
    (try simp [Know.add, depOn, Region.binds] at hk)
    go_simp
    exact ⟨Below.refl _ _, rfl⟩
  refine wpL_det ?_
  apply Exists.intro
  refine ⟨?_, ?_⟩
  · intro vs w' hC hk
    (try simp [Know.add, depOn, Region.binds] at hk)
    go_simp
    exact ⟨Below.refl _ _, rfl⟩
  refine wpL_det ?_
  apply Exists.intro
  refine ⟨?_, ?_⟩
  · intro vs w' hC hk
    (try simp [Know.add, depOn, Region.binds] at hk)
    go_simp
    exact ⟨Below.refl _ _, rfl⟩
  refine wpL_det ?_
  apply Exists.intro
  refine ⟨?_, ?_⟩
  · intro vs w' hC hk
    (try simp [Know.add, depOn, Region.binds] at hk)
    go_simp
    refine (RT.out _ hC).mono ?_
    rintro e w'' ⟨rfl, hb⟩
    first | exact ⟨rfl, hb⟩ | exact ⟨_, rfl, hb, rfl⟩
  refine wpL_det ?_
  apply Exists.intro
  refine ⟨?_, ?_⟩
  · intro vs w' hC hk
    (try simp [Know.add, depOn, Region.binds] at hk)
    go_simp
    exact ⟨Below.refl _ _, rfl⟩
  refine wpL_det ?_
  apply Exists.intro
  refine ⟨?_, ?_⟩
  · intro vs w' hC hk
    (try simp [Know.add, depOn, Region.binds] at hk)
    go_simp
    refine (RFA.out _ hC).mono ?_
    rintro e w'' ⟨rfl, hb⟩
    first | exact ⟨rfl, hb⟩ | exact ⟨_, rfl, hb, rfl⟩
  refine wpL_det ?_
  apply Exists.intro
  refine ⟨?_, ?_⟩
  · intro vs w' hC hk
    (try simp [Know.add, depOn, Region.binds] at hk)
    go_simp
    refine (RRT.out _).mono ?_
    rintro e w'' ⟨rfl, hb⟩
    first | exact ⟨rfl, hb⟩ | exact ⟨_, rfl, hb, rfl⟩
  refine wpL_det ?_
  apply Exists.intro
  refine ⟨?_, ?_⟩
  · intro vs w' hC hk
    (try simp [Know.add, depOn, Region.binds] at hk)
    go_simp
    exact ⟨Below.refl _ _, rfl⟩
  refine wpL_det ?_
  apply Exists.intro
  refine ⟨?_, ?_⟩
  · intro vs w' hC hk
    (try simp [Know.add, depOn, Region.binds] at hk)
    go_simp
    exact ⟨Below.refl _ _, rfl⟩
  refine wpL_nil ?_
  intro vs W9 hC hk
  have h27 : vs 27 = .bool false := hk.2 (by kernel_rfl)
  have B9 := Lib.hid (below_step B8.out hC)
  have SU9 := Lib.hid (SU8.out.below hC (Nat.le_refl _))
  have HC9 := Lib.hid hC
  clear hk hC r0 r1 r2 r3 r4 r5 r6 r7 r8 r9 q0 q1 q2 q3
  go_frame
  simp only [Nat.zero_add, Nat.reduceAdd, h27]
  go_wp2_with fail
  have AT := SU9.out.at
  rw [HU.out] at AT
  obtain ⟨oa', cap', e1, -, AT⟩ := AT
  obtain ⟨rfl, rfl⟩ : ou = oa' ∧ cu = cap' := by injection e1 with a b c; exact ⟨a, c⟩
  have HX := Lib.hid AT
  clear AT e1 h27
  go_loopw [15] (fun i wr => ∃ q : Nat, q ≤ n ∧ i = .int .i64 q ∧ Below W9.heap.size W9 wr) (fun i _ => n - (intOf i).toNat)
  case atStart => exact ⟨0, by omega, rfl, Below.refl _ _⟩
  case round =>
    obtain ⟨q, hq, rfl, hbl⟩ := hrel
    have BL := Lib.hid hbl
    by_cases hlt : q < n
    · have hql : q < l.length := by have := HN.out; omega
      have hkn : (q : Int) < (n : Int) := by omega
      obtain ⟨b, off, vk, hoa, sv, cs⟩ := HX.out q hql
      have sv2 := fun W (h : Below wr.heap.size wr W) => sv.below (stepQ hbl h) (Nat.le_refl _)
      have cs2 := fun W (h : Below wr.heap.size wr W) => cs.below (stepQ hbl h) (Nat.le_refl _)
      have kc := KL.out l[q] (List.getElem_mem hql)
      obtain ⟨c, hc⟩ : ∃ c, c = l[q] := ⟨_, rfl⟩
      rw [← hc] at sv2 cs2 kc sv
      obtain ⟨oc, cc, rfl⟩ := sv.form
      have SV2 := Lib.hid sv2
      have CS := Lib.hid cs2
      have KC := Lib.hid kc
      have WJ : Hid (wrap64 ((q : Int) + 1) = ((q + 1 : Nat) : Int)) := Lib.hid (wr64 (q + 1) (by omega)).1
      clear sv cs sv2 cs2 kc hc hbl
      have r0 : ∀ W, Below wr.heap.size wr W → W.cell? ⟨w.heap.size, 0, none⟩ = some (.int .i64 a.kind) := fun W h => (AR.out W (stepQ HC9.out (stepQ BL.out h))).1
      have r1 : ∀ W, Below wr.heap.size wr W → W.cell? ⟨w.heap.size, 1, none⟩ = some (.int .i64 a.rk) := fun W h => (AR.out W (stepQ HC9.out (stepQ BL.out h))).2.1
      have r2 : ∀ W, Below wr.heap.size wr W → W.cell? ⟨w.heap.size, 2, none⟩ = some (.string a.id) := fun W h => (AR.out W (stepQ HC9.out (stepQ BL.out h))).2.2.1
      have r3 : ∀ W, Below wr.heap.size wr W → W.cell? ⟨w.heap.size, 3, none⟩ = some (.string a.va) := fun W h => (AR.out W (stepQ HC9.out (stepQ BL.out h))).2.2.2.1
      have r4 : ∀ W, Below wr.heap.size wr W → W.cell? ⟨w.heap.size, 4, none⟩ = some (.float .f64 a.ttl) := fun W h => (AR.out W (stepQ HC9.out (stepQ BL.out h))).2.2.2.2.1
      have r5 : ∀ W, Below wr.heap.size wr W → W.cell? ⟨w.heap.size, 5, none⟩ = some (.int .i64 a.pick) := fun W h => (AR.out W (stepQ HC9.out (stepQ BL.out h))).2.2.2.2.2.1
      have r6 : ∀ W, Below wr.heap.size wr W → W.cell? ⟨w.heap.size, 6, none⟩ = some (.int .u64 a.n) := fun W h => (AR.out W (stepQ HC9.out (stepQ BL.out h))).2.2.2.2.2.2.1
      have r7 : ∀ W, Below wr.heap.size wr W → W.cell? ⟨w.heap.size, 7, none⟩ = some (.slice oa a.keep.length cap) := fun W h => (AR.out W (stepQ HC9.out (stepQ BL.out h))).2.2.2.2.2.2.2.1
      have r8 : ∀ W, Below wr.heap.size wr W → W.cell? ⟨w.heap.size, 8, none⟩ = some (.int .i64 a.torn) := fun W h => (AR.out W (stepQ HC9.out (stepQ BL.out h))).2.2.2.2.2.2.2.2.1
      have r9 : ∀ W, Below wr.heap.size wr W → W.cell? ⟨w.heap.size, 9, none⟩ = some (.int .i64 a.pl) := fun W h => (AR.out W (stepQ HC9.out (stepQ BL.out h))).2.2.2.2.2.2.2.2.2
      have s0 : ∀ W, Below wr.heap.size wr W → W.cell? ⟨b, off + q * 10, none⟩ = some (.int .i64 c.kind) := fun W h => (CS.out W h).1
      have s1 : ∀ W, Below wr.heap.size wr W → W.cell? ⟨b, off + q * 10 + 1, none⟩ = some (.int .i64 c.rk) := fun W h => (CS.out W h).2.1
      have s2 : ∀ W, Below wr.heap.size wr W → W.cell? ⟨b, off + q * 10 + 2, none⟩ = some (.string c.id) := fun W h => (CS.out W h).2.2.1
      have s3 : ∀ W, Below wr.heap.size wr W → W.cell? ⟨b, off + q * 10 + 3, none⟩ = some (.string c.va) := fun W h => (CS.out W h).2.2.2.1
      have s4 : ∀ W, Below wr.heap.size wr W → W.cell? ⟨b, off + q * 10 + 4, none⟩ = some (.float .f64 c.ttl) := fun W h => (CS.out W h).2.2.2.2.1
      have s5 : ∀ W, Below wr.heap.size wr W → W.cell? ⟨b, off + q * 10 + 5, none⟩ = some (.int .i64 c.pick) := fun W h => (CS.out W h).2.2.2.2.2.1
      have s6 : ∀ W, Below wr.heap.size wr W → W.cell? ⟨b, off + q * 10 + 6, none⟩ = some (.int .u64 c.n) := fun W h => (CS.out W h).2.2.2.2.2.2.1
      have s7 : ∀ W, Below wr.heap.size wr W → W.cell? ⟨b, off + q * 10 + 7, none⟩ = some (.slice oc c.keep.length cc) := fun W h => (CS.out W h).2.2.2.2.2.2.2.1
      have s8 : ∀ W, Below wr.heap.size wr W → W.cell? ⟨b, off + q * 10 + 8, none⟩ = some (.int .i64 c.torn) := fun W h => (CS.out W h).2.2.2.2.2.2.2.2.1
      have s9 : ∀ W, Below wr.heap.size wr W → W.cell? ⟨b, off + q * 10 + 9, none⟩ = some (.int .i64 c.pl) := fun W h => (CS.out W h).2.2.2.2.2.2.2.2.2
      have SB9 := Lib.hid (fun W (h : Below wr.heap.size wr W) => SB8.out W (stepQ HC9.out (stepQ BL.out h)))
      obtain ⟨zs, hzs⟩ : ∃ z, z = decide (a = c) := ⟨_, rfl⟩
      obtain ⟨zc, hzc⟩ : ∃ z, z = decide c.Right := ⟨_, rfl⟩
      have x1 := fun W h => Same_val a c _ _ W KA.out.keep (SB9.out W h) (SV2.out W h) zs (Lib.hid hzs)
      have x2 := fun W h => rSame_val a c _ _ W KA.out.keep (SB9.out W h) (SV2.out W h) zs (Lib.hid hzs)
      have x3 := fun W h => Right_val c _ W KC.out.keep (SV2.out W h)
      have x4 := fun W => rRight_val c oc cc W
      have x5 := fun W h => Ref_val a _ W (SB9.out W h)
      have x6 := fun W h => Ref_val c _ W (SV2.out W h)
      rw [← hzc] at x3 x4
      unfold Ac.row at x1 x2 x3 x4 x5 x6
      have ST := Lib.hid x1
      have RST := Lib.hid x2
      have RTC := Lib.hid x3
      have RRTC := Lib.hid x4
      have RFA2 := Lib.hid x5
      have RFC := Lib.hid x6
      have q1 : (zs == zs) = true := beq_self_eq_true _
      have q3 : (zc == zc) = true := beq_self_eq_true _
      subst hoa
      clear x1 x2 x3 x4 x5 x6 hzs hzc
      go_wp2_with fail
      refine wp_region_loose_fast (by kernel_rfl) (by kernel_rfl) ?_
      refine wpL_det ?_
      apply Exists.intro
      refine ⟨?_, ?_⟩
      · intro vs w' hC hk
        (try simp [Know.add, depOn, Region.binds] at hk)
        go_simp
        exact ⟨Below.refl _ _, rfl⟩
      refine wpL_det ?_
      apply Exists.intro
      refine ⟨?_, ?_⟩
      · intro vs w' hC hk
        (try simp [Know.add, depOn, Region.binds] at hk)
        go_simp
        exact ⟨Below.refl _ _, rfl⟩
      refine wpL_det ?_
      apply Exists.intro
      refine ⟨?_, ?_⟩
      · intro vs w' hC hk
        (try simp [Know.add, depOn, Region.binds] at hk)
        go_simp
        exact ⟨Below.refl _ _, rfl⟩
      refine wpL_det ?_
      apply Exists.intro
      refine ⟨?_, ?_⟩
      · intro vs w' hC hk
        (try simp [Know.add, depOn, Region.binds] at hk)
        go_simp
        exact ⟨Below.refl _ _, rfl⟩
      refine wpL_det ?_
      apply Exists.intro
      refine ⟨?_, ?_⟩
      · intro vs w' hC hk
        (try simp [Know.add, depOn, Region.binds] at hk)
        go_simp
        exact ⟨Below.refl _ _, rfl⟩
      refine wpL_det ?_
      apply Exists.intro
      refine ⟨?_, ?_⟩
      · intro vs w' hC hk
        (try simp [Know.add, depOn, Region.binds] at hk)
        go_simp
        refine (ST.out _ hC).mono ?_
        rintro e w'' ⟨rfl, hb⟩
        first | exact ⟨rfl, hb⟩ | exact ⟨_, rfl, hb, rfl⟩
      refine wpL_det ?_
      apply Exists.intro
      refine ⟨?_, ?_⟩
      · intro vs w' hC hk
        (try simp [Know.add, depOn, Region.binds] at hk)
        go_simp
        exact ⟨Below.refl _ _, rfl⟩
      refine wpL_det ?_
      apply Exists.intro
      refine ⟨?_, ?_⟩
      · intro vs w' hC hk
        (try simp [Know.add, depOn, Region.binds] at hk)
        go_simp
        refine (RFA2.out _ hC).mono ?_
        rintro e w'' ⟨rfl, hb⟩
        first | exact ⟨rfl, hb⟩ | exact ⟨_, rfl, hb, rfl⟩
      refine wpL_det ?_
      apply Exists.intro
      refine ⟨?_, ?_⟩
      · intro vs w' hC hk
        (try simp [Know.add, depOn, Region.binds] at hk)
        go_simp
        exact ⟨Below.refl _ _, rfl⟩
      refine wpL_det ?_
      apply Exists.intro
      refine ⟨?_, ?_⟩
      · intro vs w' hC hk
        (try simp [Know.add, depOn, Region.binds] at hk)
        go_simp
        exact ⟨Below.refl _ _, rfl⟩
      refine wpL_det ?_
      apply Exists.intro
      refine ⟨?_, ?_⟩
      · intro vs w' hC hk
        (try simp [Know.add, depOn, Region.binds] at hk)
        go_simp
        exact ⟨Below.refl _ _, rfl⟩
      refine wpL_det ?_
      apply Exists.intro
      refine ⟨?_, ?_⟩
      · intro vs w' hC hk
        (try simp [Know.add, depOn, Region.binds] at hk)
        go_simp
        exact ⟨Below.refl _ _, rfl⟩
      refine wpL_det ?_
      apply Exists.intro
      refine ⟨?_, ?_⟩
      · intro vs w' hC hk
        (try simp [Know.add, depOn, Region.binds] at hk)
        go_simp
        refine (RFC.out _ hC).mono ?_
        rintro e w'' ⟨rfl, hb⟩
        first | exact ⟨rfl, hb⟩ | exact ⟨_, rfl, hb, rfl⟩
      refine wpL_det ?_
      apply Exists.intro
      refine ⟨?_, ?_⟩
      · intro vs w' hC hk
        (try simp [Know.add, depOn, Region.binds] at hk)
        go_simp
        refine (RST.out _ hC).mono ?_
        rintro e w'' ⟨rfl, hb⟩
        first | exact ⟨rfl, hb⟩ | exact ⟨_, rfl, hb, rfl⟩
      refine wpL_det ?_
      apply Exists.intro
      refine ⟨?_, ?_⟩
      · intro vs w' hC hk
        (try simp [Know.add, depOn, Region.binds] at hk)
        go_simp
        exact ⟨Below.refl _ _, rfl⟩
      refine wpL_det ?_
      apply Exists.intro
      refine ⟨?_, ?_⟩
      · intro vs w' hC hk
        (try simp [Know.add, depOn, Region.binds] at hk)
        go_simp
        exact ⟨Below.refl _ _, rfl⟩
      refine wpL_det ?_
      apply Exists.intro
      refine ⟨?_, ?_⟩
      · intro vs w' hC hk
        (try simp [Know.add, depOn, Region.binds] at hk)
        go_simp
        exact ⟨Below.refl _ _, rfl⟩
      refine wpL_det ?_
      apply Exists.intro
      refine ⟨?_, ?_⟩
      · intro vs w' hC hk
        (try simp [Know.add, depOn, Region.binds] at hk)
        go_simp
        exact ⟨Below.refl _ _, rfl⟩
      refine wpL_det ?_
      apply Exists.intro
      refine ⟨?_, ?_⟩
      · intro vs w' hC hk
        (try simp [Know.add, depOn, Region.binds] at hk)
        go_simp
        exact ⟨Below.refl _ _, rfl⟩
      refine wpL_det ?_
      apply Exists.intro
      refine ⟨?_, ?_⟩
      · intro vs w' hC hk
        (try simp [Know.add, depOn, Region.binds] at hk)
        go_simp
        exact ⟨Below.refl _ _, rfl⟩
      refine wpL_det ?_
      apply Exists.intro
      refine ⟨?_, ?_⟩
      · intro vs w' hC hk
        (try simp [Know.add, depOn, Region.binds] at hk)
        go_simp
        refine (RTC.out _ hC).mono ?_
        rintro e w'' ⟨rfl, hb⟩
        first | exact ⟨rfl, hb⟩ | exact ⟨_, rfl, hb, rfl⟩
      refine wpL_det ?_
      apply Exists.intro
      refine ⟨?_, ?_⟩
      · intro vs w' hC hk
        (try simp [Know.add, depOn, Region.binds] at hk)
        go_simp
        exact ⟨Below.refl _ _, rfl⟩
      refine wpL_det ?_
      apply Exists.intro
      refine ⟨?_, ?_⟩
      · intro vs w' hC hk
        (try simp [Know.add, depOn, Region.binds] at hk)
        go_simp
        exact ⟨Below.refl _ _, rfl⟩
      refine wpL_det ?_
      apply Exists.intro
      refine ⟨?_, ?_⟩
      · intro vs w' hC hk
        (try simp [Know.add, depOn, Region.binds] at hk)
        go_simp
        exact ⟨Below.refl _ _, rfl⟩
      refine wpL_det ?_
      apply Exists.intro
      refine ⟨?_, ?_⟩
      · intro vs w' hC hk
        (try simp [Know.add, depOn, Region.binds] at hk)
        go_simp
        exact ⟨Below.refl _ _, rfl⟩
      refine wpL_det ?_
      apply Exists.intro
      refine ⟨?_, ?_⟩
      · intro vs w' hC hk
        (try simp [Know.add, depOn, Region.binds] at hk)
        go_simp
        refine (RFC.out _ hC).mono ?_
        rintro e w'' ⟨rfl, hb⟩
        first | exact ⟨rfl, hb⟩ | exact ⟨_, rfl, hb, rfl⟩
      refine wpL_det ?_
      apply Exists.intro
      refine ⟨?_, ?_⟩
      · intro vs w' hC hk
        (try simp [Know.add, depOn, Region.binds] at hk)
        go_simp
        refine (RRTC.out _).mono ?_
        rintro e w'' ⟨rfl, hb⟩
        first | exact ⟨rfl, hb⟩ | exact ⟨_, rfl, hb, rfl⟩
      refine wpL_det ?_
      apply Exists.intro
      refine ⟨?_, ?_⟩
      · intro vs w' hC hk
        (try simp [Know.add, depOn, Region.binds] at hk)
        go_simp
        exact ⟨Below.refl _ _, rfl⟩
      refine wpL_det ?_
      apply Exists.intro
      refine ⟨?_, ?_⟩
      · intro vs w' hC hk
        (try simp [Know.add, depOn, Region.binds] at hk)
        go_simp
        exact ⟨Below.refl _ _, rfl⟩
      refine wpL_nil ?_
      intro vs w' hC hk
      have h28 : vs 28 = .bool false := hk.2 (by kernel_rfl)
      have BE := Lib.hid (below_step BL.out hC)
      clear hk hC r0 r1 r2 r3 r4 r5 r6 r7 r8 r9 s0 s1 s2 s3 s4 s5 s6 s7 s8 s9 q1 q3
      go_frame
      simp only [Nat.zero_add, Nat.reduceAdd, h28]
      clear h28
      go_wp2_with fail
      go_roundw
      case rel => exact ⟨q + 1, by omega, by first | rfl | (rw [WJ.out]), BE.out⟩
      case measure => (try rw [WJ.out]); simp only [intOf, Int.toNat_natCast]; omega
    · obtain rfl : q = n := by omega
      clear hbl
      go_wp2_with fail
      refine (fixed_val _).mono ?_; rintro e w10 ⟨rfl, b10⟩
      go_wp2_with fail
      go_ret
      exact ⟨rfl, below_step B9.out (below_step BL.out b10)⟩
theorem ScriptTells_walk (v0 : Value) (s : ByteArray) (v2 : Value) (w : World) (o0 : Row.Opn Try.prog w 22 v0) (hs : s.size ≤ 140737488351232) (o2 : Row.Opn Try.prog w 29 v2) :
    Calls Try.prog 3 #[v0, .string s, v2] w fun e w' => e = .returned (.bool true) ∧ Below w.heap.size w w' := by
  obtain ⟨l, h1, h2, _⟩ := open_acts o0
  obtain ⟨a, vk, rfl, h3, h4⟩ := open_act o2
  exact tells_main l v0 s a vk w h1 h2 hs h3 h4
end Go.Proofs.Ytjkiofgllmjkcaa.L
