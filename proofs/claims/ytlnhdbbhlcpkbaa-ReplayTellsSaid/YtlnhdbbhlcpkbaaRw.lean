/- replay.Upto; the fixed calls. -/
import Derived.Test.YtlnhdbbhlcpkbaaRu
namespace Go.Proofs.Ytlnhdbbhlcpkbaa.G
open Go.RowKit Go.Maps Go.Proofs.Ytlnhdbbhlcpkbaa.WordPlain Go.Proofs.Ytlnhdbbhlcpkbaa.Loose
set_option linter.unusedVariables false
set_option linter.unusedSimpArgs false

set_option maxRecDepth 100000 in
set_option maxHeartbeats 4000000 in
theorem Del_nil (w : World) (ver B : Nat) (hB : w.cell? ⟨B, 0, none⟩ = some (.int .u64 (ver : Int))) :
    Calls Try.prog 28 #[.slice none 0 0, .func (.func 30) #[] #[.pointer (some ⟨B, 0, none⟩)]] w fun e w' => e = .returned (.slice none 0 0) ∧ Below w.heap.size w w' := by
  have iv := Idx_val w (.slice none 0 0) [] ver B (LR.nil _ _ _ _ _) (by simp) hB
  have IV := Lib.hid iv
  clear iv hB
  go_enter Try.func28, Try.ntmps28
  go_wp2_with fail
  refine IV.out.mono ?_; rintro e w1 ⟨hcase, b1⟩
  rcases hcase with ⟨i, hi, _⟩ | ⟨rfl, hall⟩
  · exact absurd hi (Nat.not_lt_zero _)
  · have HB := Lib.hid b1
    clear hall b1
    go_wp2_with fail
    go_ret
    exact ⟨rfl, HB.out⟩
theorem Del_val (w : World) (base : Nat) (v : Value) (l : List Rec) (ver B : Nat) (hown : OwnL base 42 7 encR w v l) (hl : l.length ≤ 1000000) (hb : base ≤ w.heap.size) (hB : w.cell? ⟨B, 0, none⟩ = some (.int .u64 (ver : Int))) (hBb : B < base) :
    Calls Try.prog 28 #[v, .func (.func 30) #[] #[.pointer (some ⟨B, 0, none⟩)]] w fun e w' => (∃ u, e = .returned u ∧ LR 7 encR w' u (uptoL ver l)) ∧ Below base w w' := by
  have ho := hown
  rcases hown with ⟨h0, ⟨rfl, hz⟩ | ⟨g, cap, cur, rfl, hg, hh, hc, hm, hs, ht⟩⟩
  · have hl0 : l = [] := List.length_eq_zero_iff.1 hz
    subst hl0
    exact (Del_nil w ver B hB).mono fun e w' ⟨h1, h2⟩ => ⟨⟨_, h1, LR.nil _ _ _ _ _⟩, h2.mono hb⟩
  · refine Del_core w base g 0 cap l.length l ver B rfl hl hc hg (lt_of_rowR hh) hB hBb (fun i hi j u hu => ?_) (fun j hj => ?_)
    · have hj7 : j < 7 := by
        rcases Nat.lt_or_ge j (encR l[i]).length with h | h
        · exact h
        · rw [List.getElem?_eq_none h] at hu; cases hu
      have e := flat_at 7 encR encR_len l i j hi hj7
      rw [hu] at e
      rw [Nat.zero_add]
      exact own_atR ho _ _ e
    · rw [Nat.zero_add, cell_of_row _ _ _ _ _ _ hh]
      have hjs : j < cur.size := by have := Nat.mul_le_mul_right 7 hc; omega
      exact ⟨by rw [Array.getElem?_eq_getElem hjs]; rfl, frozen_of_row _ _ _ _ _ hh⟩
set_option maxRecDepth 100000 in
set_option maxHeartbeats 4000000 in
theorem Upto_val (w : World) (v : Value) (l : List Rec) (ver : Nat) (h : LR 7 encR w v l) (hs : SlV v) (hl : l.length ≤ 1000000) :
    Calls Try.prog 18 #[v, .int .u64 (ver : Int)] w fun e w' => (∃ u, e = .returned u ∧ LR 7 encR w' u (uptoL ver l)) ∧ Below w.heap.size w w' := by
  obtain ⟨W1, hW1⟩ : ∃ W, W = w.alloc (.cells #[.int .u64 (ver : Int)] 23) := ⟨_, rfl⟩
  have b0 : Below w.heap.size w W1 := by rw [hW1]; exact (Below.refl _ _).alloc (Nat.le_refl _) _
  have n0 : W1.heap[w.heap.size]? = some (.cells #[.int .u64 (ver : Int)] 23 (0, 0)) := by rw [hW1]; exact heap_alloc_new w _
  have cl := Clone_val W1 v l (h.below b0 (Nat.le_refl _)) hs hl
  have CV := Lib.hid cl
  have B0 := Lib.hid b0
  have N0 := Lib.hid n0
  have HW := Lib.hid hW1
  have HL := Lib.hid hl
  obtain ⟨oa, cap, hv, _⟩ := h
  subst hv
  clear cl b0 n0 hW1 hs hl
  have hmf : ∀ (fn : Fn) (first cap : Array Value) (w : World), (Instr.makeFunc fn first cap).run Try.prog w = .ok (.func fn first cap) w := fun _ _ _ _ => rfl
  go_enter Try.func18, Try.ntmps18
  go_wp2_with fail
  rw [← HW.out]
  refine CV.out.mono ?_; rintro e w2 ⟨⟨u, rfl, ho⟩, b2⟩
  have dv := Del_val w2 W1.heap.size u l ver w.heap.size ho HL.out b2.size ((b2.cell (p := ⟨w.heap.size, 0, none⟩) (lt_of_rowR N0.out)).trans ((cell_of_row _ _ 0 _ _ _ N0.out).trans rfl)) (lt_of_rowR N0.out)
  have DV := Lib.hid dv
  have B2 := Lib.hid b2
  clear dv b2 ho
  go_wp2_with fail
  refine DV.out.mono ?_; rintro e w3 ⟨⟨u3, rfl, hu⟩, b3⟩
  have HU := Lib.hid hu
  have BE := Lib.hid (stepR B0.out (B2.out.trans b3))
  clear hu b3
  go_wp2_with fail
  go_ret
  exact ⟨⟨_, rfl, HU.out⟩, BE.out⟩
def fL : List Rec := [⟨0, 0, 1, 1, 9, ⟨#[97]⟩, ⟨#[]⟩⟩, ⟨0, 0, 2, 2, 0, ⟨#[97]⟩, ⟨#[]⟩⟩, ⟨0, 0, 1, 1, 5, ⟨#[98]⟩, ⟨#[120]⟩⟩, ⟨0, 0, 1, 3, 7, ⟨#[97]⟩, ⟨#[]⟩⟩, ⟨0, 0, 3, 8, 0, ⟨#[]⟩, ⟨#[]⟩⟩]
theorem lit_R (w : World) (l : List Rec) (cs : Array Value) (n : Nat) (hn : n = l.length) (hc : cs.toList = l.flatMap encR) (h6 : n ≤ 1000000) : LR 7 encR (w.alloc (.cells cs 42)) (.slice (some ⟨w.heap.size, 0, none⟩) n n) l := by
  subst hn
  have hz : cs.size = l.length * 7 := by rw [← Array.length_toList, hc, flat_lenR]
  have h := World.ownsRow_lit (base := 0) (e := 42) (size := 7) w cs l.length (Nat.zero_le _) (by simp only [maxLen]; omega) hz
  rw [hc] at h
  exact own_lr (k := 7) (enc := encR) (fun _ => rfl) h
theorem flat_lenS (l : List Ses) : (l.flatMap encS).length = l.length * 3 := by
  induction l with
  | nil => rfl
  | cons a l ih => rw [List.flatMap_cons, List.length_append, ih, show (encS a).length = 3 from rfl, List.length_cons]; omega
theorem lit_S (w : World) (l : List Ses) (cs : Array Value) (n : Nat) (hn : n = l.length) (hc : cs.toList = l.flatMap encS) (h6 : n ≤ 1000000) : LR 3 encS (w.alloc (.cells cs 61)) (.slice (some ⟨w.heap.size, 0, none⟩) n n) l := by
  subst hn
  have hz : cs.size = l.length * 3 := by rw [← Array.length_toList, hc, flat_lenS]
  have h := World.ownsRow_lit (base := 0) (e := 61) (size := 3) w cs l.length (Nat.zero_le _) (by simp only [maxLen]; omega) hz
  rw [hc] at h
  exact own_lr (k := 3) (enc := encS) (fun _ => rfl) h
theorem fL_kind : ∀ r ∈ fL, r.Kind := by
  intro r hr
  simp only [fL, List.mem_cons, List.not_mem_nil, or_false] at hr
  rcases hr with rfl | rfl | rfl | rfl | rfl <;> exact ⟨by decide, by decide, by decide, by decide, by decide, by decide, by decide⟩
theorem fL_new : newL fL = [⟨0, 0, 1, 3, 7, ⟨#[97]⟩, ⟨#[]⟩⟩, ⟨0, 0, 1, 1, 5, ⟨#[98]⟩, ⟨#[120]⟩⟩] := by decide
theorem fL_5 : sesL 5 (newL fL) = [⟨⟨#[97]⟩, ⟨#[]⟩, 7⟩] := by decide
theorem fL_4 : sesL 4 (newL fL) = [⟨⟨#[97]⟩, ⟨#[]⟩, 7⟩, ⟨⟨#[98]⟩, ⟨#[120]⟩, 5⟩] := by decide
theorem fL_0 : sesL 0 (newL (fL.take 2)) = [] := by decide
theorem fL_u : (uptoL 1 fL).length = 2 := by decide
set_option maxRecDepth 100000 in
set_option maxHeartbeats 4000000 in
theorem fixed_val (w : World) : Calls Try.prog 20 #[] w fun e w' => e = .returned (.bool true) ∧ Below w.heap.size w w' := by
  obtain ⟨w1, hw1⟩ : ∃ W, W = w.alloc (.cells #[.int .u64 0, .int .u32 0, .int .i64 1, .int .u64 1, .int .u64 9, .string ⟨#[97]⟩, .string ⟨#[]⟩, .int .u64 0, .int .u32 0, .int .i64 2, .int .u64 2, .int .u64 0, .string ⟨#[97]⟩, .string ⟨#[]⟩, .int .u64 0, .int .u32 0, .int .i64 1, .int .u64 1, .int .u64 5, .string ⟨#[98]⟩, .string ⟨#[120]⟩, .int .u64 0, .int .u32 0, .int .i64 1, .int .u64 3, .int .u64 7, .string ⟨#[97]⟩, .string ⟨#[]⟩, .int .u64 0, .int .u32 0, .int .i64 3, .int .u64 8, .int .u64 0, .string ⟨#[]⟩, .string ⟨#[]⟩] 42) := ⟨_, rfl⟩
  have lr := lit_R w fL #[.int .u64 0, .int .u32 0, .int .i64 1, .int .u64 1, .int .u64 9, .string ⟨#[97]⟩, .string ⟨#[]⟩, .int .u64 0, .int .u32 0, .int .i64 2, .int .u64 2, .int .u64 0, .string ⟨#[97]⟩, .string ⟨#[]⟩, .int .u64 0, .int .u32 0, .int .i64 1, .int .u64 1, .int .u64 5, .string ⟨#[98]⟩, .string ⟨#[120]⟩, .int .u64 0, .int .u32 0, .int .i64 1, .int .u64 3, .int .u64 7, .string ⟨#[97]⟩, .string ⟨#[]⟩, .int .u64 0, .int .u32 0, .int .i64 3, .int .u64 8, .int .u64 0, .string ⟨#[]⟩, .string ⟨#[]⟩] 5 rfl rfl (by decide)
  have b1 : Below w.heap.size w w1 := by rw [hw1]; exact (Below.refl _ _).alloc (Nat.le_refl _) _
  rw [← hw1] at lr
  have nv := Newest_val fL _ w1 (by decide) fL_kind lr
  rw [fL_new] at nv
  have NV := Lib.hid nv
  have LR0 := Lib.hid lr
  have B1 := Lib.hid b1
  have HW1 := Lib.hid hw1
  clear nv lr b1 hw1
  go_enter Try.func20, Try.ntmps20
  go_wp2_with fail
  rw [← HW1.out]
  refine NV.out.mono ?_; rintro e w2 ⟨⟨u2, rfl, hu⟩, hb⟩
  obtain ⟨oa, cap, rfl, _, hx⟩ := hu
  obtain ⟨g, off, hoa, hc⟩ := hx 0 (by decide)
  obtain ⟨g', off', hoa', hc'⟩ := hx 1 (by decide)
  rw [hoa] at hoa'
  injection hoa' with e1
  injection e1 with e1 e2
  subst e1 e2
  have x0 : w2.cell? ⟨g, off + 3, none⟩ = some (.int .u64 3) := hc 3 _ rfl
  have x1 : w2.cell? ⟨g, off + 1 * 7 + 5, none⟩ = some (.string ⟨#[98]⟩) := hc' 5 _ rfl
  have x2 : w2.cell? ⟨g, off + 7 + 5, none⟩ = some (.string ⟨#[98]⟩) := hc' 5 _ rfl
  have x3 : w2.cell? ⟨g, off + 12, none⟩ = some (.string ⟨#[98]⟩) := hc' 5 _ rfl
  subst hoa
  have BB2 := Lib.hid hb
  have s2 := fun W => sl_toR W w.heap.size 0 5 5 2 (by decide)
  clear hc hc' hx hb NV
  simp only [List.length_cons, List.length_nil, Nat.zero_add, Nat.reduceAdd]
  go_wp2_with fail
  clear x0 x1 x2 x3
  have sv := Sessions_val w2 (.slice (some ⟨w.heap.size, 0, none⟩) 5 5) fL 5 (LR0.out.below BB2.out (Nat.le_refl _)) (by decide) fL_kind
  rw [fL_5] at sv
  have SV := Lib.hid sv
  clear sv
  refine SV.out.mono ?_; rintro e w3 ⟨⟨u3, rfl, hu⟩, hb⟩
  have lv := Lives_val w3 u3 _ hu (by decide)
  have LV := Lib.hid lv
  have BB3 := Lib.hid (stepR BB2.out hb)
  clear lv hu hb SV
  go_wp2_with fail
  refine LV.out.mono ?_; rintro e w4 ⟨⟨u4, rfl, hu⟩, hb⟩
  have hnew := lit_S w4 ([⟨⟨#[97]⟩, ⟨#[]⟩, 7⟩] : List Ses) #[.string ⟨#[97]⟩, .string ⟨#[]⟩, .int .u64 7] 1 rfl rfl (by decide)
  have bnew : Below w4.heap.size w4 (w4.alloc (.cells #[.string ⟨#[97]⟩, .string ⟨#[]⟩, .int .u64 7] 61)) := (Below.refl _ _).alloc (Nat.le_refl _) _
  have sm := Same_val (w4.alloc (.cells #[.string ⟨#[97]⟩, .string ⟨#[]⟩, .int .u64 7] 61)) u4 _ _ _ (hu.below bnew (Nat.le_refl _)) hnew (by decide)
  rw [decide_eq_true rfl] at sm
  have SM := Lib.hid sm
  have BBn := Lib.hid (stepR (stepR BB3.out hb) bnew)
  clear sm hu hb hnew bnew LV
  go_wp2_with fail
  refine SM.out.mono ?_; rintro e w5 ⟨rfl, hb⟩
  have BB5 := Lib.hid (stepR BBn.out hb)
  clear hb SM BBn
  go_wp2_with fail
  have sv := Sessions_val w5 (.slice (some ⟨w.heap.size, 0, none⟩) 5 5) fL 4 (LR0.out.below BB5.out (Nat.le_refl _)) (by decide) fL_kind
  rw [fL_4] at sv
  have SV := Lib.hid sv
  clear sv
  refine SV.out.mono ?_; rintro e w6 ⟨⟨u6, rfl, hu⟩, hb⟩
  have lv := Lives_val w6 u6 _ hu (by decide)
  have LV := Lib.hid lv
  have BB6 := Lib.hid (stepR BB5.out hb)
  clear lv hu hb SV
  go_wp2_with fail
  refine LV.out.mono ?_; rintro e w7 ⟨⟨u7, rfl, hu⟩, hb⟩
  have hnew := lit_S w7 ([⟨⟨#[97]⟩, ⟨#[]⟩, 7⟩, ⟨⟨#[98]⟩, ⟨#[120]⟩, 5⟩] : List Ses) #[.string ⟨#[97]⟩, .string ⟨#[]⟩, .int .u64 7, .string ⟨#[98]⟩, .string ⟨#[120]⟩, .int .u64 5] 2 rfl rfl (by decide)
  have bnew : Below w7.heap.size w7 (w7.alloc (.cells #[.string ⟨#[97]⟩, .string ⟨#[]⟩, .int .u64 7, .string ⟨#[98]⟩, .string ⟨#[120]⟩, .int .u64 5] 61)) := (Below.refl _ _).alloc (Nat.le_refl _) _
  have sm := Same_val (w7.alloc (.cells #[.string ⟨#[97]⟩, .string ⟨#[]⟩, .int .u64 7, .string ⟨#[98]⟩, .string ⟨#[120]⟩, .int .u64 5] 61)) u7 _ _ _ (hu.below bnew (Nat.le_refl _)) hnew (by decide)
  rw [decide_eq_true rfl] at sm
  have SM := Lib.hid sm
  have BBn := Lib.hid (stepR (stepR BB6.out hb) bnew)
  clear sm hu hb hnew bnew LV
  go_wp2_with fail
  refine SM.out.mono ?_; rintro e w8 ⟨rfl, hb⟩
  have BB8 := Lib.hid (stepR BBn.out hb)
  clear hb SM BBn
  go_wp2_with fail
  have sv := Sessions_val w8 (.slice (some ⟨w.heap.size, 0, none⟩) 2 5) (fL.take 2) 0 ((LR0.out.below BB8.out (Nat.le_refl _)).first 2 (by decide)) (by decide) (fun r hr => fL_kind r (List.mem_of_mem_take hr))
  rw [fL_0] at sv
  have SV := Lib.hid sv
  clear sv
  refine SV.out.mono ?_; rintro e w9 ⟨⟨u9, rfl, hu⟩, hb⟩
  obtain ⟨oa9, cap9, rfl, _⟩ := hu
  have BB9 := Lib.hid (stepR BB8.out hb)
  have uv := Upto_val w9 (.slice (some ⟨w.heap.size, 0, none⟩) 5 5) fL 1 (LR0.out.below BB9.out (Nat.le_refl _)) (Or.inr ⟨_, _, _, rfl⟩) (by decide)
  have UV := Lib.hid uv
  clear uv hb SV
  simp only [List.length_nil]
  go_wp2_with fail
  refine UV.out.mono ?_; rintro e w10 ⟨⟨u10, rfl, hu⟩, hb⟩
  obtain ⟨oa10, cap10, rfl, _⟩ := hu
  rw [fL_u]
  have BB10 := Lib.hid (stepR BB9.out hb)
  have nn := Newest_val [] (.slice none 0 0) w10 (by decide) (fun r hr => by cases hr) (LR.nil _ _ _ _ _)
  have NN := Lib.hid nn
  clear nn hb UV
  go_wp2_with fail
  refine NN.out.mono ?_; rintro e w11 ⟨⟨u11, rfl, hu⟩, hb⟩
  obtain ⟨oa11, cap11, rfl, _⟩ := hu
  have BE := Lib.hid (stepR B1.out (stepR BB10.out hb))
  clear hb NN
  simp only [show (newL []).length = 0 from rfl]
  go_wp2_with fail
  go_ret
  exact ⟨by first | rfl | simp, BE.out⟩
end Go.Proofs.Ytlnhdbbhlcpkbaa.G
