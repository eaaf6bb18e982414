/- script.Decode: the acts of bytes. -/
import Derived.Test.YtjkiofgllmjkcaaSa
namespace Go.Proofs.Ytjkiofgllmjkcaa.G
open Go.RowKit Go.Proofs.Ytjkiofgllmjkcaa.WordPlain
set_option linter.unusedVariables false
set_option linter.unusedSimpArgs false

theorem wrpS (x : Nat) (h : x < 4611686018427387904) : wrap64 (x : Int) = (x : Int) ∧ IntKind.i64.wrap (x : Int) = (x : Int) := ⟨IntWalk.wrap64_in _ (by omega), IntWalk.i64_in _ (by omega)⟩
theorem alloc_size (w : World) (o : Obj) : (w.alloc o).heap.size = w.heap.size + 1 := by show (w.heap.push o).size = _; rw [Array.size_push]
theorem five_new (w : World) (o0 o1 o2 o3 o4 : Obj) : ∀ W, W = ((((w.alloc o0).alloc o1).alloc o2).alloc o3).alloc o4 → W.heap[w.heap.size]? = some o0 ∧ W.heap[w.heap.size + 1]? = some o1 ∧ W.heap[w.heap.size + 2]? = some o2 ∧ W.heap[w.heap.size + 3]? = some o3 ∧ W.heap[w.heap.size + 4]? = some o4 ∧ Below w.heap.size w W := by
  intro W hW
  have s1 := alloc_size w o0
  have s2 := alloc_size (w.alloc o0) o1
  have s3 := alloc_size ((w.alloc o0).alloc o1) o2
  have s4 := alloc_size (((w.alloc o0).alloc o1).alloc o2) o3
  have n0 := heap_alloc_new w o0
  have n1 := heap_alloc_new (w.alloc o0) o1
  have n2 := heap_alloc_new ((w.alloc o0).alloc o1) o2
  have n3 := heap_alloc_new (((w.alloc o0).alloc o1).alloc o2) o3
  have n4 := heap_alloc_new ((((w.alloc o0).alloc o1).alloc o2).alloc o3) o4
  rw [s1] at n1 s2
  rw [s2] at n2 s3
  rw [s3] at n3 s4
  rw [s4] at n4
  have b1 : Below w.heap.size w (w.alloc o0) := (Below.refl _ _).alloc (Nat.le_refl _) _
  have b2 := b1.alloc b1.size o1
  have b3 := b2.alloc b2.size o2
  have b4 := b3.alloc b3.size o3
  rw [hW]
  refine ⟨?_, ?_, ?_, ?_, n4, b4.alloc b4.size o4⟩
  · rw [heap_alloc_old _ _ (by rw [s4]; omega), heap_alloc_old _ _ (by rw [s3]; omega), heap_alloc_old _ _ (by rw [s2]; omega), heap_alloc_old _ _ (by rw [s1]; omega)]; exact n0
  · rw [heap_alloc_old _ _ (by rw [s4]; omega), heap_alloc_old _ _ (by rw [s3]; omega), heap_alloc_old _ _ (by rw [s2]; omega)]; exact n1
  · rw [heap_alloc_old _ _ (by rw [s4]; omega), heap_alloc_old _ _ (by rw [s3]; omega)]; exact n2
  · rw [heap_alloc_old _ _ (by rw [s4]; omega)]; exact n3
def leftIn (A : Nat) (wr : World) : Nat := match wr.cell? ⟨A, 0, none⟩ with | some (.string s) => s.size | _ => 0

/-- the truths of a crash are read: so many of them -/
structure KI (w wr : World) (lv : Value) (acc : List Ac) (vks : List Value) (F c : Nat) (L1 : List UInt8) (q : Nat) (kl : List Bool) (kv : Value) (L2 : List UInt8) : Prop where
  si : SI w wr L2 lv acc vks
  f : wr.heap[F]? = some (.cells #[.int .i64 5, .int .i64 0, .string ⟨#[]⟩, .string ⟨#[]⟩, .float .f64 0, .int .i64 0, .int .u64 0, kv, .int .i64 0, .int .i64 0] 29 (0, 0))
  ob : Ob w wr kv kl
  fr : ∀ k, some k = kv.ownBlock → Free w lv vks k ∧ k ≠ F
  len : kl.length = q
  cnt : L2.length + q ≤ L1.length
  rd : rdBools c L1 = (match rdBools (c - q) L2 with | .ok (r, R) => .ok (kl ++ r, R) | .error e => .error e)
theorem KI.start {w wr : World} {lv : Value} {acc : List Ac} {vks : List Value} {F c : Nat} {L1 : List UInt8} (h : SI w wr L1 lv acc vks) (hf : wr.heap[F]? = some (.cells #[.int .i64 5, .int .i64 0, .string ⟨#[]⟩, .string ⟨#[]⟩, .float .f64 0, .int .i64 0, .int .u64 0, .slice none 0 0, .int .i64 0, .int .i64 0] 29 (0, 0))) : KI w wr lv acc vks F c L1 0 [] (.slice none 0 0) L1 :=
  ⟨h, hf, World.ownsRow_nil _ _ _ _, (fun _ e => by cases e), rfl, (by omega), (by rw [Nat.sub_zero]; cases rdBools c L1 <;> rfl)⟩
theorem KI.bad {w wr : World} {lv kv : Value} {acc : List Ac} {vks : List Value} {F c q : Nat} {L1 L2 : List UInt8} {kl : List Bool} (h : KI w wr lv acc vks F c L1 q kl kv L2) (hq : q < c) (hr : rdNum 1 L2 = .error 6) : rdBools c L1 = .error 6 := by
  rw [h.rd, show c - q = (c - q - 1) + 1 by omega]
  simp only [rdBools, hr]
theorem KI.bad2 {w wr : World} {lv kv : Value} {acc : List Ac} {vks : List Value} {F c q x : Nat} {L1 L2 M : List UInt8} {kl : List Bool} (h : KI w wr lv acc vks F c L1 q kl kv L2) (hq : q < c) (hr : rdNum 1 L2 = .ok (x, M)) (hx : ¬ x ≤ 1) : rdBools c L1 = .error 5 := by
  rw [h.rd, show c - q = (c - q - 1) + 1 by omega]
  simp only [rdBools, hr]
  rw [if_pos (by omega)]
theorem KI.done {w wr : World} {lv kv : Value} {acc : List Ac} {vks : List Value} {F c q : Nat} {L1 L2 : List UInt8} {kl : List Bool} (h : KI w wr lv acc vks F c L1 q kl kv L2) (hq : q = c) : rdBools c L1 = .ok (kl, L2) := by
  rw [h.rd, hq, Nat.sub_self]
  simp [rdBools]
theorem KI.step {w wr w3 w6 : World} {lv kv : Value} {acc : List Ac} {vks : List Value} {F c q x : Nat} {L1 L2 M : List UInt8} {kl : List Bool} {b : Bool} (h : KI w wr lv acc vks F c L1 q kl kv L2) (hfr : Free w lv vks F) {W3 : World} (hF : F < W3.heap.size) (hq : q < c) (hr : rdNum 1 L2 = .ok (x, M)) (hm : Mv w.heap.size M wr w3) (g cap : Nat)
    (hown : w6.ownsRow (w.heap.size + 5) 4 1 (.slice (some ⟨g, 0, none⟩) (kl.length + 1) cap) (kl.length + 1) (kl.map Value.bool ++ [.bool b])) (hg : (w3.alloc (.cells #[.bool b] 4)).grownBy w6 kv.ownBlock) (hw : kv.ownBlock = some g ∨ g = (w3.alloc (.cells #[.bool b] 4)).heap.size)
    (hF6 : w6.heap[F]? = some (.cells #[.int .i64 5, .int .i64 0, .string ⟨#[]⟩, .string ⟨#[]⟩, .float .f64 0, .int .i64 0, .int .u64 0, kv, .int .i64 0, .int .i64 0] 29 (0, 0))) (hb : (b = (x == 1)) ∧ ¬ 1 < x := by decide) :
    KI w (w6.setCell ⟨F, 7, none⟩ (.slice (some ⟨g, 0, none⟩) (kl.length + 1) cap)) lv acc vks F c L1 (q + 1) (kl ++ [b]) (.slice (some ⟨g, 0, none⟩) (kl.length + 1) cap) M := by
  have s3 := h.si.mv hm
  have o3 := h.ob.mv hm
  have hFw := lt_of_rowS h.f
  have s4 := s3.kept (World.grownBy_alloc w3 (.cells #[.bool b] 4) none) (fun _ e => by cases e)
  have hfg : Free w lv vks g ∧ g ≠ F := by
    rcases hw with e | e
    · exact h.fr g e.symm
    · have f4 := s4.fresh
      rw [e]
      exact ⟨f4, by rw [alloc_size]; have := hm.1.size; omega⟩
  have s5 := s4.kept hg (fun k hk => (h.fr k hk).1)
  have s6 := s5.kept (grown_setS w6 ⟨F, 7, none⟩ (.slice (some ⟨g, 0, none⟩) (kl.length + 1) cap)) (fun k hk => by rw [show k = F from Option.some.inj hk]; exact hfr)
  have hMl : M.length + 1 = L2.length := by
    unfold rdNum at hr
    by_cases h1 : 1 ≤ L2.length
    · rw [if_pos h1] at hr; injection hr with hr; injection hr with _ hr; rw [← hr, List.length_drop]; omega
    · rw [if_neg h1] at hr; cases hr
  refine ⟨s6, ?_, ?_, ?_, by rw [List.length_append, h.len]; rfl, by have := h.cnt; omega, ?_⟩
  · rw [heap_setCell_same _ _ _ _ _ _ hF6]; rfl
  · have := hown.kept (grown_setS w6 ⟨F, 7, none⟩ (.slice (some ⟨g, 0, none⟩) (kl.length + 1) cap)) (Or.inr (by show some g ≠ some F; intro e; exact hfg.2 (Option.some.inj e)))
    show World.ownsRow _ _ _ _ _ (kl ++ [b]).length _
    rw [List.length_append, List.map_append]
    exact this
  · intro k hk
    have e : k = g := Option.some.inj hk
    rw [e]; exact hfg
  · rw [h.rd, show c - q = (c - (q + 1)) + 1 by omega]
    simp only [rdBools, hr]
    rw [if_neg hb.2, hb.1]
    cases rdBools (c - (q + 1)) M <;> simp
theorem SI.left {w wr : World} {L : List UInt8} {lv : Value} {acc : List Ac} {vks : List Value} (h : SI w wr L lv acc vks) : leftIn w.heap.size wr = L.length := by
  unfold leftIn
  rw [(cell_of_row _ _ 0 _ _ _ h.a).trans (show _ = some (.string ⟨L.toArray⟩) from rfl)]
  rfl
set_option maxRecDepth 100000 in
set_option maxHeartbeats 40000000 in
theorem Decode_val (S : List UInt8) (w : World) (hS : S.length ≤ 1000000) :
    Calls Try.prog 13 #[.string ⟨S.toArray⟩] w fun e w' => (∃ v, e = .returned (.tuple #[v, .int .i64 (decX ⟨S.toArray⟩)]) ∧ SA w' v (decA ⟨S.toArray⟩)) ∧ Below w.heap.size w w' := by
  have hmf : ∀ (fn : Fn) (first cap : Array Value) (w : World), (Instr.makeFunc fn first cap).run Try.prog w = .ok (.func fn first cap) w := fun _ _ _ _ => rfl
  have sfn : ∀ (a : Addr) (fn : Fn) (first cap : Array Value) (m : Mode) (W : World), (store a (.func fn first cap) m).run Try.prog W = stored Try.prog W a (.func fn first cap) m := fun a fn first cap m W => run_store _ W a _ m rfl
  go_enter_defers Try.func13, Try.ntmps13
  go_wp2_with fail
  have hW5 := five_new w (.cells #[.string ⟨S.toArray⟩] 9) (.cells #[.slice none 0 0] 22) (.cells #[.int .i64 0] 32) (.cells #[takeF w.heap.size] 67) (.cells #[numF (w.heap.size + 3)] 69) _ rfl
  simp only [show w.heap.size + 1 + 1 = w.heap.size + 2 from rfl, show w.heap.size + 2 + 1 = w.heap.size + 3 from rfl, show w.heap.size + 3 + 1 = w.heap.size + 4 from rfl]
  unfold takeF numF at hW5
  obtain ⟨W0, hW0⟩ : ∃ W, W = ((((w.alloc (.cells #[.string ⟨S.toArray⟩] 9)).alloc (.cells #[.slice none 0 0] 22)).alloc (.cells #[.int .i64 0] 32)).alloc (.cells #[.func (.func 27) #[] #[.pointer (some ⟨w.heap.size, 0, none⟩)]] 67)).alloc (.cells #[.func (.func 29) #[] #[.pointer (some ⟨w.heap.size + 3, 0, none⟩)]] 69) := ⟨_, rfl⟩
  rw [← hW0] at hW5 ⊢
  obtain ⟨n0, n1, n2, n3, n4, nb⟩ := hW5
  have hsi0 : SI w W0 S (.slice none 0 0) [] [] := ⟨n0, n1, n2, n3, n4, nb, World.ownsRow_nil _ _ _ _, rfl, (fun i h => absurd h (Nat.not_lt_zero _)), (fun i h => absurd h (Nat.not_lt_zero _))⟩
  have HSI0 := Lib.hid hsi0
  clear n0 n1 n2 n3 n4 nb hW0 hsi0 hmf sfn
  have sfl := store_floatS
  go_loopw [8] (fun _ wr => ∃ L lv acc vks, SI w wr L lv acc vks ∧ Rd S acc L ∧ acc.length + L.length ≤ S.length) (fun _ wr => leftIn w.heap.size wr)
  case atStart => exact ⟨S, _, [], [], HSI0.out, Rd.start S, by simp⟩
  case round =>
    obtain ⟨L, lv, acc, vks, hsi, hrd, hcnt⟩ := hrel
    have HSI := Lib.hid hsi
    have HRD := Lib.hid hrd
    have cA := (cell_of_row _ _ 0 _ _ _ hsi.a).trans (show _ = some (.string ⟨L.toArray⟩) from rfl)
    have cD := (cell_of_row _ _ 0 _ _ _ hsi.d).trans (show _ = some (takeF w.heap.size) from rfl)
    have cE := (cell_of_row _ _ 0 _ _ _ hsi.e).trans (show _ = some (numF (w.heap.size + 3)) from rfl)
    have hLs : (ByteArray.mk L.toArray).size = L.length := rfl
    have hLb : L.length ≤ 140737488351232 := by have := hrd.1; omega
    clear hsi hrd HSI0
    by_cases hL : L = []
    · subst hL
      have hl0 : (ByteArray.mk ([] : List UInt8).toArray).size = 0 := rfl
      have cB := (cell_of_row _ _ 0 _ _ _ HSI.out.b).trans (show _ = some lv from rfl)
      have fB := frozen_of_row _ _ 0 _ _ HSI.out.b
      have cC := (cell_of_row _ _ 0 _ _ _ HSI.out.c).trans (show _ = some (.int .i64 0) from rfl)
      have fC := frozen_of_row _ _ 0 _ _ HSI.out.c
      obtain ⟨oa, cap, rfl⟩ := HSI.out.form
      clear cD cE
      have HB5 := Lib.hid HSI.out.b
      have hC5 : (wr.setCell ⟨w.heap.size + 1, 0, none⟩ (.slice oa acc.length cap)).heap[w.heap.size + 2]? = some (.cells #[.int .i64 0] 32 (0, 0)) := (heap_setCell_other _ _ _ _ (by show w.heap.size + 2 ≠ w.heap.size + 1; omega)).trans HSI.out.c
      have cC5 := (cell_of_row _ _ 0 _ _ _ hC5).trans (show _ = some (.int .i64 0) from rfl)
      have fC5 := frozen_of_row _ _ 0 _ _ hC5
      have HC5 := Lib.hid hC5
      clear hC5
      go_wp2_with fail
      have ed := HRD.out.done
      refine door_right _ (w.heap.size + 1) (w.heap.size + 2) (.slice oa acc.length cap) 0 _ _ rfl rfl ?_ ?_ ?_
      · rw [heap_setCell_other _ _ _ _ (by show w.heap.size + 1 ≠ w.heap.size + 2; omega), heap_setCell_same _ _ _ _ _ _ HB5.out]; rfl
      · rw [heap_setCell_same _ _ _ _ _ _ HC5.out]; rfl
      · rw [ed.1, ed.2]
        have hb : Below w.heap.size w (((wr.setCell ⟨w.heap.size + 1, 0, none⟩ (.slice oa acc.length cap)).setCell ⟨w.heap.size + 2, 0, none⟩ (.int .i64 0)).alloc (.cells #[.int .i64 0] 64)) := by
          have h1 := (HSI.out.bel.setCell (p := ⟨w.heap.size + 1, 0, none⟩) (by show w.heap.size ≤ w.heap.size + 1; omega) (.slice oa acc.length cap)).setCell (p := ⟨w.heap.size + 2, 0, none⟩) (by show w.heap.size ≤ w.heap.size + 2; omega) (.int .i64 0)
          exact h1.alloc h1.size _
        exact ⟨⟨_, rfl, HSI.out.ended⟩, hb⟩
    · have hlen : 1 ≤ L.length := by cases L with | nil => exact absurd rfl hL | cons => simp
      have hpos : (0 : Int) < ((ByteArray.mk L.toArray).size : Int) := by rw [hLs]; omega
      unfold numF at cE
      go_wp2_with fail
      rcases HSI.out.num 1 (by omega) hLb with ⟨k, M, hr, hk, hMl, C⟩ | ⟨hr, C⟩
      case inr => rw [rd_ok 1 L hlen] at hr; cases hr
      refine C.mono ?_; rintro e w1 ⟨rfl, hm⟩
      have hs1 := HSI.out.mv hm
      have HR := Lib.hid hr
      have HS1 := Lib.hid hs1
      have hfr := hs1.fresh
      have hlt1 := lt_of_rowS hs1.e
      clear C hm hr hs1 cA cD cE hpos hLs
      by_cases h6 : 6 ≤ k
      · obtain ⟨wk, wk2⟩ := wrpS k (by omega)
        have q : decide ((k : Int) < 6) = false := decide_eq_false (fun h => absurd (Int.ofNat_lt.1 h) (Nat.not_lt.2 h6))
        have q2 : (k < 6) = False := eq_false (Nat.not_lt.2 h6)
        have hs2 := HS1.out.kept (World.grownBy_alloc w1 (.cells #[.int .i64 (k : Int), .int .i64 0, .string ⟨#[]⟩, .string ⟨#[]⟩, .float .f64 0, .int .i64 0, .int .u64 0, .slice none 0 0, .int .i64 0, .int .i64 0] 29) none) (fun _ e => by cases e)
        have HS2 := Lib.hid hs2
        clear hs2
        go_wp2_with fail
        refine (must_false 5 _).mono ?_; rintro e w2 ⟨rfl, rfl⟩
        go_wp2_with fail
        refine door_wrong _ (w.heap.size + 1) (w.heap.size + 2) _ 0 5 w _ rfl rfl (by omega) HS2.out.b HS2.out.c (by omega) (by omega) HS2.out.bel _ (fun _ h => ?_)
        have ed := HRD.out.bad (x := 5) hL (by simp [rdOne, HR.out, h6])
        rw [ed.1, ed.2]
        exact ⟨⟨_, rfl, Or.inl ⟨rfl, none, 0, rfl⟩⟩, h⟩
      · have hk6 : k = 0 ∨ k = 1 ∨ k = 2 ∨ k = 3 ∨ k = 4 ∨ k = 5 := by omega
        clear h6 hk
        rcases hk6 with rfl | rfl | rfl | rfl | rfl | rfl
        · go_wp2_with fail
          refine (must_true 5 _).mono ?_; rintro e w2 ⟨rfl, rfl⟩
          have hs2 : SI w (w1.alloc (.cells #[.int .i64 0, .int .i64 0, .string ⟨#[]⟩, .string ⟨#[]⟩, .float .f64 0, .int .i64 0, .int .u64 0, .slice none 0 0, .int .i64 0, .int .i64 0] 29)) M lv acc vks := HS1.out.kept (World.grownBy_alloc w1 _ none) (fun _ e => by cases e)
          have hF2 := heap_alloc_new w1 (.cells #[.int .i64 0, .int .i64 0, .string ⟨#[]⟩, .string ⟨#[]⟩, .float .f64 0, .int .i64 0, .int .u64 0, .slice none 0 0, .int .i64 0, .int .i64 0] 29)
          obtain ⟨F, hF⟩ : ∃ F, F = w1.heap.size := ⟨_, rfl⟩
          obtain ⟨W2, hW2⟩ : ∃ W, W = w1.alloc (.cells #[.int .i64 0, .int .i64 0, .string ⟨#[]⟩, .string ⟨#[]⟩, .float .f64 0, .int .i64 0, .int .u64 0, .slice none 0 0, .int .i64 0, .int .i64 0] 29) := ⟨_, rfl⟩
          rw [← hF] at hF2 hfr hlt1
          rw [← hW2] at hs2 hF2
          simp only [← hF]
          rw [← hW2]
          have hFA : F ≠ w.heap.size := by have := hfr.1; omega
          have nB : (F = w.heap.size + 1) = False := eq_false (by have := hfr.1; omega)
          have nB' : (w.heap.size + 1 = F) = False := eq_false (by have := hfr.1; omega)
          have HS2 := Lib.hid hs2
          have HF2 := Lib.hid hF2
          have HFR := Lib.hid hfr
          clear hs2 hF2 hfr hF hW2 hlt1
          have cE2 := (cell_of_row _ _ 0 _ _ _ HS2.out.e).trans (show _ = some (numF (w.heap.size + 3)) from rfl)
          unfold numF at cE2
          obtain ⟨z0, z1, z2, z3, z4, z5, z6, z7, z8, z9⟩ := cells10 HF2.out
          go_wp2_with fail
          clear z0 z1 z2 z3 z4 z5 z6 z7 z8 z9
          rcases HS2.out.num 1 (by omega) (by omega) with ⟨rk, L1, hr3, hx3, hl3, C⟩ | ⟨hr3, C⟩
          rotate_left
          · refine C.mono ?_; rintro e w9 ⟨rfl, rfl⟩
            go_wp2_with fail
            refine door_wrong _ (w.heap.size + 1) (w.heap.size + 2) _ 0 6 w _ rfl rfl (by omega) HS2.out.b HS2.out.c (by omega) (by omega) HS2.out.bel _ (fun _ h => ?_)
            have ed := HRD.out.bad (x := 6) hL (by simp [rdOne, HR.out, rdAsk, hr3])
            rw [ed.1, ed.2]
            exact ⟨⟨_, rfl, Or.inl ⟨rfl, none, 0, rfl⟩⟩, h⟩
          refine C.mono ?_; rintro e W3 ⟨rfl, hm⟩
          have hF3 := (hm.1.block F (lt_of_rowS HF2.out) (fun e => hFA (Option.some.inj e))).trans HF2.out
          have HS3 := Lib.hid (HS2.out.mv hm)
          have HF3 := Lib.hid hF3
          have HR3 := Lib.hid hr3
          clear C hm hF3 hr3 cE2
          obtain ⟨wx, wx2⟩ := wrpS rk (by omega)
          have c1 := (cell_of_row _ _ 1 _ _ _ HF3.out).trans (show _ = some _ from rfl)
          have f1 := frozen_of_row _ _ 1 _ _ HF3.out
          obtain ⟨W4, hV⟩ : ∃ V, V = W3.setCell ⟨F, 1, none⟩ (.int .i64 (rk : Nat)) := ⟨_, rfl⟩
          have hsV : SI w W4 L1 lv acc vks := by rw [hV]; exact HS3.out.kept (grown_setS W3 ⟨F, 1, none⟩ _) (fun q e => by rw [show q = F from Option.some.inj e]; exact HFR.out)
          have hFV : W4.heap[F]? = some (.cells #[.int .i64 0, .int .i64 (rk : Nat), .string ⟨#[]⟩, .string ⟨#[]⟩, .float .f64 0, .int .i64 0, .int .u64 0, .slice none 0 0, .int .i64 0, .int .i64 0] 29 (0, 0)) := by rw [hV, heap_setCell_same _ _ _ _ _ _ HF3.out]; rfl
          have cE4 := (cell_of_row _ _ 0 _ _ _ hsV.e).trans (show _ = some (numF (w.heap.size + 3)) from rfl)
          unfold numF at cE4
          rw [hV] at cE4
          have HS4 := Lib.hid hsV
          have HF4 := Lib.hid hFV
          have HV := Lib.hid hV
          clear hV hsV hFV
          go_wp2_with fail
          rw [← HV.out]
          clear c1 f1 HV
          clear wx wx2
          rcases HS4.out.text (by omega) with ⟨s1, L2, hr5, hx5, hl5, C⟩ | ⟨hr5, C⟩
          rotate_left
          · refine C.mono ?_; rintro e w9 ⟨rfl, hg9⟩
            have en := HS4.out.ends hg9
            go_wp2_with fail
            refine door_wrong _ (w.heap.size + 1) (w.heap.size + 2) _ 0 6 w _ rfl rfl (by omega) en.1 en.2.1 (by omega) (by omega) en.2.2 _ (fun _ h => ?_)
            have ed := HRD.out.bad (x := 6) hL (by simp [rdOne, HR.out, rdAsk, HR3.out, hr5])
            rw [ed.1, ed.2]
            exact ⟨⟨_, rfl, Or.inl ⟨rfl, none, 0, rfl⟩⟩, h⟩
          refine C.mono ?_; rintro e W5 ⟨rfl, hm⟩
          have hF5 := (hm.1.block F (lt_of_rowS HF4.out) (fun e => hFA (Option.some.inj e))).trans HF4.out
          have HS5 := Lib.hid (HS4.out.mv hm)
          have HF5 := Lib.hid hF5
          have HR5 := Lib.hid hr5
          clear C hm hF5 hr5 cE4
          have c2 := (cell_of_row _ _ 2 _ _ _ HF5.out).trans (show _ = some _ from rfl)
          have f2 := frozen_of_row _ _ 2 _ _ HF5.out
          obtain ⟨W6, hV⟩ : ∃ V, V = W5.setCell ⟨F, 2, none⟩ (.string s1) := ⟨_, rfl⟩
          have hsV : SI w W6 L2 lv acc vks := by rw [hV]; exact HS5.out.kept (grown_setS W5 ⟨F, 2, none⟩ _) (fun q e => by rw [show q = F from Option.some.inj e]; exact HFR.out)
          have hFV : W6.heap[F]? = some (.cells #[.int .i64 0, .int .i64 (rk : Nat), .string s1, .string ⟨#[]⟩, .float .f64 0, .int .i64 0, .int .u64 0, .slice none 0 0, .int .i64 0, .int .i64 0] 29 (0, 0)) := by rw [hV, heap_setCell_same _ _ _ _ _ _ HF5.out]; rfl
          have cE6 := (cell_of_row _ _ 0 _ _ _ hsV.e).trans (show _ = some (numF (w.heap.size + 3)) from rfl)
          unfold numF at cE6
          rw [hV] at cE6
          have HS6 := Lib.hid hsV
          have HF6 := Lib.hid hFV
          have HV := Lib.hid hV
          clear hV hsV hFV
          go_wp2_with fail
          rw [← HV.out]
          clear c2 f2 HV
          rcases HS6.out.text (by omega) with ⟨s2, L3, hr7, hx7, hl7, C⟩ | ⟨hr7, C⟩
          rotate_left
          · refine C.mono ?_; rintro e w9 ⟨rfl, hg9⟩
            have en := HS6.out.ends hg9
            go_wp2_with fail
            refine door_wrong _ (w.heap.size + 1) (w.heap.size + 2) _ 0 6 w _ rfl rfl (by omega) en.1 en.2.1 (by omega) (by omega) en.2.2 _ (fun _ h => ?_)
            have ed := HRD.out.bad (x := 6) hL (by simp [rdOne, HR.out, rdAsk, HR3.out, HR5.out, hr7])
            rw [ed.1, ed.2]
            exact ⟨⟨_, rfl, Or.inl ⟨rfl, none, 0, rfl⟩⟩, h⟩
          refine C.mono ?_; rintro e W7 ⟨rfl, hm⟩
          have hF7 := (hm.1.block F (lt_of_rowS HF6.out) (fun e => hFA (Option.some.inj e))).trans HF6.out
          have HS7 := Lib.hid (HS6.out.mv hm)
          have HF7 := Lib.hid hF7
          have HR7 := Lib.hid hr7
          clear C hm hF7 hr7 cE6
          have c3 := (cell_of_row _ _ 3 _ _ _ HF7.out).trans (show _ = some _ from rfl)
          have f3 := frozen_of_row _ _ 3 _ _ HF7.out
          obtain ⟨W8, hV⟩ : ∃ V, V = W7.setCell ⟨F, 3, none⟩ (.string s2) := ⟨_, rfl⟩
          have hsV : SI w W8 L3 lv acc vks := by rw [hV]; exact HS7.out.kept (grown_setS W7 ⟨F, 3, none⟩ _) (fun q e => by rw [show q = F from Option.some.inj e]; exact HFR.out)
          have hFV : W8.heap[F]? = some (.cells #[.int .i64 0, .int .i64 (rk : Nat), .string s1, .string s2, .float .f64 0, .int .i64 0, .int .u64 0, .slice none 0 0, .int .i64 0, .int .i64 0] 29 (0, 0)) := by rw [hV, heap_setCell_same _ _ _ _ _ _ HF7.out]; rfl
          have cE8 := (cell_of_row _ _ 0 _ _ _ hsV.e).trans (show _ = some (numF (w.heap.size + 3)) from rfl)
          unfold numF at cE8
          rw [hV] at cE8
          have HS8 := Lib.hid hsV
          have HF8 := Lib.hid hFV
          have HV := Lib.hid hV
          clear hV hsV hFV
          go_wp2_with fail
          rw [← HV.out]
          clear c3 f3 HV
          rcases HS8.out.num 8 (by omega) (by omega) with ⟨x, L4, hr9, hx9, hl9, C⟩ | ⟨hr9, C⟩
          rotate_left
          · refine C.mono ?_; rintro e w9 ⟨rfl, rfl⟩
            go_wp2_with fail
            refine door_wrong _ (w.heap.size + 1) (w.heap.size + 2) _ 0 6 w _ rfl rfl (by omega) HS8.out.b HS8.out.c (by omega) (by omega) HS8.out.bel _ (fun _ h => ?_)
            have ed := HRD.out.bad (x := 6) hL (by simp [rdOne, HR.out, rdAsk, HR3.out, HR5.out, HR7.out, hr9])
            rw [ed.1, ed.2]
            exact ⟨⟨_, rfl, Or.inl ⟨rfl, none, 0, rfl⟩⟩, h⟩
          refine C.mono ?_; rintro e W9 ⟨rfl, hm⟩
          have hF9 := (hm.1.block F (lt_of_rowS HF8.out) (fun e => hFA (Option.some.inj e))).trans HF8.out
          have HS9 := Lib.hid (HS8.out.mv hm)
          have HF9 := Lib.hid hF9
          have HR9 := Lib.hid hr9
          clear C hm hF9 hr9 cE8
          have fx := fromS x
          have c4 := (cell_of_row _ _ 4 _ _ _ HF9.out).trans (show _ = some _ from rfl)
          have f4 := frozen_of_row _ _ 4 _ _ HF9.out
          obtain ⟨W10, hV⟩ : ∃ V, V = W9.setCell ⟨F, 4, none⟩ (.float .f64 x) := ⟨_, rfl⟩
          have hsV : SI w W10 L4 lv acc vks := by rw [hV]; exact HS9.out.kept (grown_setS W9 ⟨F, 4, none⟩ _) (fun q e => by rw [show q = F from Option.some.inj e]; exact HFR.out)
          have hFV : W10.heap[F]? = some (.cells #[.int .i64 0, .int .i64 (rk : Nat), .string s1, .string s2, .float .f64 x, .int .i64 0, .int .u64 0, .slice none 0 0, .int .i64 0, .int .i64 0] 29 (0, 0)) := by rw [hV, heap_setCell_same _ _ _ _ _ _ HF9.out]; rfl
          have cE10 := (cell_of_row _ _ 0 _ _ _ hsV.e).trans (show _ = some (numF (w.heap.size + 3)) from rfl)
          unfold numF at cE10
          rw [hV] at cE10
          have HS10 := Lib.hid hsV
          have HF10 := Lib.hid hFV
          have HV := Lib.hid hV
          clear hV hsV hFV
          go_wp2_with fail
          rw [← HV.out]
          clear c4 f4 HV
          clear fx
          rcases HS10.out.num 1 (by omega) (by omega) with ⟨pk, L5, hr11, hx11, hl11, C⟩ | ⟨hr11, C⟩
          rotate_left
          · refine C.mono ?_; rintro e w9 ⟨rfl, rfl⟩
            go_wp2_with fail
            refine door_wrong _ (w.heap.size + 1) (w.heap.size + 2) _ 0 6 w _ rfl rfl (by omega) HS10.out.b HS10.out.c (by omega) (by omega) HS10.out.bel _ (fun _ h => ?_)
            have ed := HRD.out.bad (x := 6) hL (by simp [rdOne, HR.out, rdAsk, HR3.out, HR5.out, HR7.out, HR9.out, hr11])
            rw [ed.1, ed.2]
            exact ⟨⟨_, rfl, Or.inl ⟨rfl, none, 0, rfl⟩⟩, h⟩
          refine C.mono ?_; rintro e W11 ⟨rfl, hm⟩
          have hF11 := (hm.1.block F (lt_of_rowS HF10.out) (fun e => hFA (Option.some.inj e))).trans HF10.out
          have HS11 := Lib.hid (HS10.out.mv hm)
          have HF11 := Lib.hid hF11
          have HR11 := Lib.hid hr11
          clear C hm hF11 hr11 cE10
          obtain ⟨wx, wx2⟩ := wrpS pk (by omega)
          have c5 := (cell_of_row _ _ 5 _ _ _ HF11.out).trans (show _ = some _ from rfl)
          have f5 := frozen_of_row _ _ 5 _ _ HF11.out
          obtain ⟨V, hV⟩ : ∃ V, V = W11.setCell ⟨F, 5, none⟩ (.int .i64 (pk : Nat)) := ⟨_, rfl⟩
          have hsV : SI w V L5 lv acc vks := by rw [hV]; exact HS11.out.kept (grown_setS W11 ⟨F, 5, none⟩ _) (fun q e => by rw [show q = F from Option.some.inj e]; exact HFR.out)
          have hFV : V.heap[F]? = some (.cells #[.int .i64 0, .int .i64 (rk : Nat), .string s1, .string s2, .float .f64 x, .int .i64 (pk : Nat), .int .u64 0, .slice none 0 0, .int .i64 0, .int .i64 0] 29 (0, 0)) := by rw [hV, heap_setCell_same _ _ _ _ _ _ HF11.out]; rfl
          obtain ⟨z0, z1, z2, z3, z4, z5, z6, z7, z8, z9⟩ := cells10 hFV
          have cB := (cell_of_row _ _ 0 _ _ _ hsV.b).trans (show _ = some lv from rfl)
          rw [hV] at z0 z1 z2 z3 z4 z5 z6 z7 z8 z9 cB
          have HSV := Lib.hid hsV
          have HV := Lib.hid hV
          obtain ⟨ii, zz, i1, i2, i3, i4, i5⟩ := act_info
          have I1 := Lib.hid i1
          have I2 := Lib.hid i2
          have I3 := Lib.hid i3
          have I4 := Lib.hid i4
          have I5 := Lib.hid i5
          have hsz : V.heap.size = W11.heap.size := by rw [hV]; unfold World.setCell; simp
          have hnw := heap_alloc_new V (.cells #[.int .i64 0, .int .i64 (rk : Nat), .string s1, .string s2, .float .f64 x, .int .i64 (pk : Nat), .int .u64 0, .slice none 0 0, .int .i64 0, .int .i64 0] 29)
          rw [hsz, hV] at hnw
          have HNW := Lib.hid hnw
          have HSZ := Lib.hid hsz
          have ha5 := lt_of_rowS HSV.out.e
          have hv5 := HSV.out.bel.size
          clear hV hsV hFV i1 i2 i3 i4 i5 hnw hsz
          go_wp2_with (at_builtin; refine wpList_append_lies _ rfl _ _ 22 rfl (w.heap.size + 5) 29 ii zz 10 112 Try.underlying22 I1.out I2.out I3.out I4.out I5.out (by decide) lv acc.length (rows acc vks) rfl ?h30 ⟨W11.heap.size, 0, none⟩ 1 1 (#[.int .i64 0, .int .i64 (rk : Nat), .string s1, .string s2, .float .f64 x, .int .i64 (pk : Nat), .int .u64 0, .slice none 0 0, .int .i64 0, .int .i64 0] : Array Value).toList rfl rfl ?h31 ?h32 ?h33 ?h34 ?h35 ?h36 _ rfl ?_)
          case h30 => rw [← HV.out]; exact HSV.out.own.alloc _
          case h32 => simp [Value.oneCell']
          case h33 => decide
          case h34 => (try clear wx wx2); simp only [maxLen]; omega
          case h35 => (try clear wx wx2); omega
          case h36 => (try clear wx wx2); rw [← HV.out, alloc_size]; omega
          (try clear wx wx2)
          intro g cap w5 hown hg hw hlt5
          rw [← HV.out] at hg
          have hw' : lv.ownBlock = some g ∨ g = (V.alloc (.cells #[.int .i64 0, .int .i64 (rk : Nat), .string s1, .string s2, .float .f64 x, .int .i64 (pk : Nat), .int .u64 0, .slice none 0 0, .int .i64 0, .int .i64 0] 29)).heap.size := by rw [alloc_size, HSZ.out]; exact hw
          clear z0 z1 z2 z3 z4 z5 z6 z7 z8 z9 cB
          have hb1 : Below V.heap.size V (V.alloc (.cells #[.int .i64 0, .int .i64 (rk : Nat), .string s1, .string s2, .float .f64 x, .int .i64 (pk : Nat), .int .u64 0, .slice none 0 0, .int .i64 0, .int .i64 0] 29)) := (Below.refl _ _).alloc (Nat.le_refl _) _
          have hsp := HSV.out.push hb1 { Ac.zero with rk := rk, id := s1, va := s2, ttl := x, pick := pk } (.slice none 0 0) (World.ownsRow_nil _ _ _ _) (fun _ e => by cases e) g cap hown hg hw'
          have hb5 : w5.heap[w.heap.size + 1]? = some (.cells #[lv] 22 (0, 0)) := (hg.block _ (by rw [alloc_size]; omega) (fun e => by have := (own_geS HSV.out.own _ e).1; omega)).trans ((heap_alloc_old _ _ (by omega)).trans HSV.out.b)
          have cB := (cell_of_row _ _ 0 _ _ _ hb5).trans (show _ = some lv from rfl)
          have fB := frozen_of_row _ _ 0 _ _ hb5
          have HSP := Lib.hid hsp
          clear hb1 hsp hb5 hown hg hw hw' hlt5 ha5 hv5
          go_wp2_with fail
          go_roundw
          case rel => exact ⟨L5, _, _, _, HSP.out, HRD.out.ok hL (by simp [rdOne, HR.out, rdAsk, HR3.out, HR5.out, HR7.out, HR9.out, HR11.out]) (by omega), by rw [List.length_append]; simp only [List.length_cons, List.length_nil]; omega⟩
          case measure => rw [HSP.out.left, HSI.out.left]; omega

        · go_wp2_with fail
          refine (must_true 5 _).mono ?_; rintro e w2 ⟨rfl, rfl⟩
          have hs2 : SI w (w1.alloc (.cells #[.int .i64 1, .int .i64 0, .string ⟨#[]⟩, .string ⟨#[]⟩, .float .f64 0, .int .i64 0, .int .u64 0, .slice none 0 0, .int .i64 0, .int .i64 0] 29)) M lv acc vks := HS1.out.kept (World.grownBy_alloc w1 _ none) (fun _ e => by cases e)
          have hF2 := heap_alloc_new w1 (.cells #[.int .i64 1, .int .i64 0, .string ⟨#[]⟩, .string ⟨#[]⟩, .float .f64 0, .int .i64 0, .int .u64 0, .slice none 0 0, .int .i64 0, .int .i64 0] 29)
          obtain ⟨F, hF⟩ : ∃ F, F = w1.heap.size := ⟨_, rfl⟩
          obtain ⟨W2, hW2⟩ : ∃ W, W = w1.alloc (.cells #[.int .i64 1, .int .i64 0, .string ⟨#[]⟩, .string ⟨#[]⟩, .float .f64 0, .int .i64 0, .int .u64 0, .slice none 0 0, .int .i64 0, .int .i64 0] 29) := ⟨_, rfl⟩
          rw [← hF] at hF2 hfr hlt1
          rw [← hW2] at hs2 hF2
          simp only [← hF]
          rw [← hW2]
          have hFA : F ≠ w.heap.size := by have := hfr.1; omega
          have nB : (F = w.heap.size + 1) = False := eq_false (by have := hfr.1; omega)
          have nB' : (w.heap.size + 1 = F) = False := eq_false (by have := hfr.1; omega)
          have HS2 := Lib.hid hs2
          have HF2 := Lib.hid hF2
          have HFR := Lib.hid hfr
          clear hs2 hF2 hfr hF hW2 hlt1
          have cE2 := (cell_of_row _ _ 0 _ _ _ HS2.out.e).trans (show _ = some (numF (w.heap.size + 3)) from rfl)
          unfold numF at cE2
          obtain ⟨z0, z1, z2, z3, z4, z5, z6, z7, z8, z9⟩ := cells10 HF2.out
          go_wp2_with fail
          clear z0 z1 z2 z3 z4 z5 z6 z7 z8 z9
          rcases HS2.out.num 8 (by omega) (by omega) with ⟨x, R, hr3, hx3, hl3, C⟩ | ⟨hr3, C⟩
          rotate_left
          · refine C.mono ?_; rintro e w9 ⟨rfl, rfl⟩
            go_wp2_with fail
            refine door_wrong _ (w.heap.size + 1) (w.heap.size + 2) _ 0 6 w _ rfl rfl (by omega) HS2.out.b HS2.out.c (by omega) (by omega) HS2.out.bel _ (fun _ h => ?_)
            have ed := HRD.out.bad (x := 6) hL (by simp [rdOne, HR.out, rdN, hr3])
            rw [ed.1, ed.2]
            exact ⟨⟨_, rfl, Or.inl ⟨rfl, none, 0, rfl⟩⟩, h⟩
          refine C.mono ?_; rintro e W3 ⟨rfl, hm⟩
          have hF3 := (hm.1.block F (lt_of_rowS HF2.out) (fun e => hFA (Option.some.inj e))).trans HF2.out
          have HS3 := Lib.hid (HS2.out.mv hm)
          have HF3 := Lib.hid hF3
          have HR3 := Lib.hid hr3
          clear C hm hF3 hr3 cE2
          have c6 := (cell_of_row _ _ 6 _ _ _ HF3.out).trans (show _ = some _ from rfl)
          have f6 := frozen_of_row _ _ 6 _ _ HF3.out
          obtain ⟨V, hV⟩ : ∃ V, V = W3.setCell ⟨F, 6, none⟩ (.int .u64 (x : Nat)) := ⟨_, rfl⟩
          have hsV : SI w V R lv acc vks := by rw [hV]; exact HS3.out.kept (grown_setS W3 ⟨F, 6, none⟩ _) (fun q e => by rw [show q = F from Option.some.inj e]; exact HFR.out)
          have hFV : V.heap[F]? = some (.cells #[.int .i64 1, .int .i64 0, .string ⟨#[]⟩, .string ⟨#[]⟩, .float .f64 0, .int .i64 0, .int .u64 (x : Nat), .slice none 0 0, .int .i64 0, .int .i64 0] 29 (0, 0)) := by rw [hV, heap_setCell_same _ _ _ _ _ _ HF3.out]; rfl
          obtain ⟨z0, z1, z2, z3, z4, z5, z6, z7, z8, z9⟩ := cells10 hFV
          have cB := (cell_of_row _ _ 0 _ _ _ hsV.b).trans (show _ = some lv from rfl)
          rw [hV] at z0 z1 z2 z3 z4 z5 z6 z7 z8 z9 cB
          have HSV := Lib.hid hsV
          have HV := Lib.hid hV
          obtain ⟨ii, zz, i1, i2, i3, i4, i5⟩ := act_info
          have I1 := Lib.hid i1
          have I2 := Lib.hid i2
          have I3 := Lib.hid i3
          have I4 := Lib.hid i4
          have I5 := Lib.hid i5
          have hsz : V.heap.size = W3.heap.size := by rw [hV]; unfold World.setCell; simp
          have hnw := heap_alloc_new V (.cells #[.int .i64 1, .int .i64 0, .string ⟨#[]⟩, .string ⟨#[]⟩, .float .f64 0, .int .i64 0, .int .u64 (x : Nat), .slice none 0 0, .int .i64 0, .int .i64 0] 29)
          rw [hsz, hV] at hnw
          have HNW := Lib.hid hnw
          have HSZ := Lib.hid hsz
          have ha5 := lt_of_rowS HSV.out.e
          have hv5 := HSV.out.bel.size
          clear hV hsV hFV i1 i2 i3 i4 i5 hnw hsz
          go_wp2_with (at_builtin; refine wpList_append_lies _ rfl _ _ 22 rfl (w.heap.size + 5) 29 ii zz 10 112 Try.underlying22 I1.out I2.out I3.out I4.out I5.out (by decide) lv acc.length (rows acc vks) rfl ?h70 ⟨W3.heap.size, 0, none⟩ 1 1 (#[.int .i64 1, .int .i64 0, .string ⟨#[]⟩, .string ⟨#[]⟩, .float .f64 0, .int .i64 0, .int .u64 (x : Nat), .slice none 0 0, .int .i64 0, .int .i64 0] : Array Value).toList rfl rfl ?h71 ?h72 ?h73 ?h74 ?h75 ?h76 _ rfl ?_)
          case h70 => rw [← HV.out]; exact HSV.out.own.alloc _
          case h72 => simp [Value.oneCell']
          case h73 => decide
          case h74 => (try clear wx wx2); simp only [maxLen]; omega
          case h75 => (try clear wx wx2); omega
          case h76 => (try clear wx wx2); rw [← HV.out, alloc_size]; omega
          (try clear wx wx2)
          intro g cap w5 hown hg hw hlt5
          rw [← HV.out] at hg
          have hw' : lv.ownBlock = some g ∨ g = (V.alloc (.cells #[.int .i64 1, .int .i64 0, .string ⟨#[]⟩, .string ⟨#[]⟩, .float .f64 0, .int .i64 0, .int .u64 (x : Nat), .slice none 0 0, .int .i64 0, .int .i64 0] 29)).heap.size := by rw [alloc_size, HSZ.out]; exact hw
          clear z0 z1 z2 z3 z4 z5 z6 z7 z8 z9 cB
          have hb1 : Below V.heap.size V (V.alloc (.cells #[.int .i64 1, .int .i64 0, .string ⟨#[]⟩, .string ⟨#[]⟩, .float .f64 0, .int .i64 0, .int .u64 (x : Nat), .slice none 0 0, .int .i64 0, .int .i64 0] 29)) := (Below.refl _ _).alloc (Nat.le_refl _) _
          have hsp := HSV.out.push hb1 { Ac.zero with kind := 1, n := x } (.slice none 0 0) (World.ownsRow_nil _ _ _ _) (fun _ e => by cases e) g cap hown hg hw'
          have hb5 : w5.heap[w.heap.size + 1]? = some (.cells #[lv] 22 (0, 0)) := (hg.block _ (by rw [alloc_size]; omega) (fun e => by have := (own_geS HSV.out.own _ e).1; omega)).trans ((heap_alloc_old _ _ (by omega)).trans HSV.out.b)
          have cB := (cell_of_row _ _ 0 _ _ _ hb5).trans (show _ = some lv from rfl)
          have fB := frozen_of_row _ _ 0 _ _ hb5
          have HSP := Lib.hid hsp
          clear hb1 hsp hb5 hown hg hw hw' hlt5 ha5 hv5
          go_wp2_with fail
          go_roundw
          case rel => exact ⟨R, _, _, _, HSP.out, HRD.out.ok hL (by simp [rdOne, HR.out, rdN, HR3.out]) (by omega), by rw [List.length_append]; simp only [List.length_cons, List.length_nil]; omega⟩
          case measure => rw [HSP.out.left, HSI.out.left]; omega

        · go_wp2_with fail
          refine (must_true 5 _).mono ?_; rintro e w2 ⟨rfl, rfl⟩
          have hs2 : SI w (w1.alloc (.cells #[.int .i64 2, .int .i64 0, .string ⟨#[]⟩, .string ⟨#[]⟩, .float .f64 0, .int .i64 0, .int .u64 0, .slice none 0 0, .int .i64 0, .int .i64 0] 29)) M lv acc vks := HS1.out.kept (World.grownBy_alloc w1 _ none) (fun _ e => by cases e)
          have hF2 := heap_alloc_new w1 (.cells #[.int .i64 2, .int .i64 0, .string ⟨#[]⟩, .string ⟨#[]⟩, .float .f64 0, .int .i64 0, .int .u64 0, .slice none 0 0, .int .i64 0, .int .i64 0] 29)
          obtain ⟨F, hF⟩ : ∃ F, F = w1.heap.size := ⟨_, rfl⟩
          obtain ⟨W2, hW2⟩ : ∃ W, W = w1.alloc (.cells #[.int .i64 2, .int .i64 0, .string ⟨#[]⟩, .string ⟨#[]⟩, .float .f64 0, .int .i64 0, .int .u64 0, .slice none 0 0, .int .i64 0, .int .i64 0] 29) := ⟨_, rfl⟩
          rw [← hF] at hF2 hfr hlt1
          rw [← hW2] at hs2 hF2
          simp only [← hF]
          rw [← hW2]
          have hFA : F ≠ w.heap.size := by have := hfr.1; omega
          have nB : (F = w.heap.size + 1) = False := eq_false (by have := hfr.1; omega)
          have nB' : (w.heap.size + 1 = F) = False := eq_false (by have := hfr.1; omega)
          have HS2 := Lib.hid hs2
          have HF2 := Lib.hid hF2
          have HFR := Lib.hid hfr
          clear hs2 hF2 hfr hF hW2 hlt1
          have cE2 := (cell_of_row _ _ 0 _ _ _ HS2.out.e).trans (show _ = some (numF (w.heap.size + 3)) from rfl)
          unfold numF at cE2
          obtain ⟨z0, z1, z2, z3, z4, z5, z6, z7, z8, z9⟩ := cells10 HF2.out
          go_wp2_with fail
          clear z0 z1 z2 z3 z4 z5 z6 z7 z8 z9
          rcases HS2.out.num 1 (by omega) (by omega) with ⟨x, R, hr3, hx3, hl3, C⟩ | ⟨hr3, C⟩
          rotate_left
          · refine C.mono ?_; rintro e w9 ⟨rfl, rfl⟩
            go_wp2_with fail
            refine door_wrong _ (w.heap.size + 1) (w.heap.size + 2) _ 0 6 w _ rfl rfl (by omega) HS2.out.b HS2.out.c (by omega) (by omega) HS2.out.bel _ (fun _ h => ?_)
            have ed := HRD.out.bad (x := 6) hL (by simp [rdOne, HR.out, rdN, hr3])
            rw [ed.1, ed.2]
            exact ⟨⟨_, rfl, Or.inl ⟨rfl, none, 0, rfl⟩⟩, h⟩
          refine C.mono ?_; rintro e W3 ⟨rfl, hm⟩
          have hF3 := (hm.1.block F (lt_of_rowS HF2.out) (fun e => hFA (Option.some.inj e))).trans HF2.out
          have HS3 := Lib.hid (HS2.out.mv hm)
          have HF3 := Lib.hid hF3
          have HR3 := Lib.hid hr3
          clear C hm hF3 hr3 cE2
          have c6 := (cell_of_row _ _ 6 _ _ _ HF3.out).trans (show _ = some _ from rfl)
          have f6 := frozen_of_row _ _ 6 _ _ HF3.out
          obtain ⟨V, hV⟩ : ∃ V, V = W3.setCell ⟨F, 6, none⟩ (.int .u64 (x : Nat)) := ⟨_, rfl⟩
          have hsV : SI w V R lv acc vks := by rw [hV]; exact HS3.out.kept (grown_setS W3 ⟨F, 6, none⟩ _) (fun q e => by rw [show q = F from Option.some.inj e]; exact HFR.out)
          have hFV : V.heap[F]? = some (.cells #[.int .i64 2, .int .i64 0, .string ⟨#[]⟩, .string ⟨#[]⟩, .float .f64 0, .int .i64 0, .int .u64 (x : Nat), .slice none 0 0, .int .i64 0, .int .i64 0] 29 (0, 0)) := by rw [hV, heap_setCell_same _ _ _ _ _ _ HF3.out]; rfl
          obtain ⟨z0, z1, z2, z3, z4, z5, z6, z7, z8, z9⟩ := cells10 hFV
          have cB := (cell_of_row _ _ 0 _ _ _ hsV.b).trans (show _ = some lv from rfl)
          rw [hV] at z0 z1 z2 z3 z4 z5 z6 z7 z8 z9 cB
          have HSV := Lib.hid hsV
          have HV := Lib.hid hV
          obtain ⟨ii, zz, i1, i2, i3, i4, i5⟩ := act_info
          have I1 := Lib.hid i1
          have I2 := Lib.hid i2
          have I3 := Lib.hid i3
          have I4 := Lib.hid i4
          have I5 := Lib.hid i5
          have hsz : V.heap.size = W3.heap.size := by rw [hV]; unfold World.setCell; simp
          have hnw := heap_alloc_new V (.cells #[.int .i64 2, .int .i64 0, .string ⟨#[]⟩, .string ⟨#[]⟩, .float .f64 0, .int .i64 0, .int .u64 (x : Nat), .slice none 0 0, .int .i64 0, .int .i64 0] 29)
          rw [hsz, hV] at hnw
          have HNW := Lib.hid hnw
          have HSZ := Lib.hid hsz
          have ha5 := lt_of_rowS HSV.out.e
          have hv5 := HSV.out.bel.size
          clear hV hsV hFV i1 i2 i3 i4 i5 hnw hsz
          go_wp2_with (at_builtin; refine wpList_append_lies _ rfl _ _ 22 rfl (w.heap.size + 5) 29 ii zz 10 112 Try.underlying22 I1.out I2.out I3.out I4.out I5.out (by decide) lv acc.length (rows acc vks) rfl ?h80 ⟨W3.heap.size, 0, none⟩ 1 1 (#[.int .i64 2, .int .i64 0, .string ⟨#[]⟩, .string ⟨#[]⟩, .float .f64 0, .int .i64 0, .int .u64 (x : Nat), .slice none 0 0, .int .i64 0, .int .i64 0] : Array Value).toList rfl rfl ?h81 ?h82 ?h83 ?h84 ?h85 ?h86 _ rfl ?_)
          case h80 => rw [← HV.out]; exact HSV.out.own.alloc _
          case h82 => simp [Value.oneCell']
          case h83 => decide
          case h84 => (try clear wx wx2); simp only [maxLen]; omega
          case h85 => (try clear wx wx2); omega
          case h86 => (try clear wx wx2); rw [← HV.out, alloc_size]; omega
          (try clear wx wx2)
          intro g cap w5 hown hg hw hlt5
          rw [← HV.out] at hg
          have hw' : lv.ownBlock = some g ∨ g = (V.alloc (.cells #[.int .i64 2, .int .i64 0, .string ⟨#[]⟩, .string ⟨#[]⟩, .float .f64 0, .int .i64 0, .int .u64 (x : Nat), .slice none 0 0, .int .i64 0, .int .i64 0] 29)).heap.size := by rw [alloc_size, HSZ.out]; exact hw
          clear z0 z1 z2 z3 z4 z5 z6 z7 z8 z9 cB
          have hb1 : Below V.heap.size V (V.alloc (.cells #[.int .i64 2, .int .i64 0, .string ⟨#[]⟩, .string ⟨#[]⟩, .float .f64 0, .int .i64 0, .int .u64 (x : Nat), .slice none 0 0, .int .i64 0, .int .i64 0] 29)) := (Below.refl _ _).alloc (Nat.le_refl _) _
          have hsp := HSV.out.push hb1 { Ac.zero with kind := 2, n := x } (.slice none 0 0) (World.ownsRow_nil _ _ _ _) (fun _ e => by cases e) g cap hown hg hw'
          have hb5 : w5.heap[w.heap.size + 1]? = some (.cells #[lv] 22 (0, 0)) := (hg.block _ (by rw [alloc_size]; omega) (fun e => by have := (own_geS HSV.out.own _ e).1; omega)).trans ((heap_alloc_old _ _ (by omega)).trans HSV.out.b)
          have cB := (cell_of_row _ _ 0 _ _ _ hb5).trans (show _ = some lv from rfl)
          have fB := frozen_of_row _ _ 0 _ _ hb5
          have HSP := Lib.hid hsp
          clear hb1 hsp hb5 hown hg hw hw' hlt5 ha5 hv5
          go_wp2_with fail
          go_roundw
          case rel => exact ⟨R, _, _, _, HSP.out, HRD.out.ok hL (by simp [rdOne, HR.out, rdN, HR3.out]) (by omega), by rw [List.length_append]; simp only [List.length_cons, List.length_nil]; omega⟩
          case measure => rw [HSP.out.left, HSI.out.left]; omega

        · go_wp2_with fail
          refine (must_true 5 _).mono ?_; rintro e w2 ⟨rfl, rfl⟩
          have hs2 : SI w (w1.alloc (.cells #[.int .i64 3, .int .i64 0, .string ⟨#[]⟩, .string ⟨#[]⟩, .float .f64 0, .int .i64 0, .int .u64 0, .slice none 0 0, .int .i64 0, .int .i64 0] 29)) M lv acc vks := HS1.out.kept (World.grownBy_alloc w1 _ none) (fun _ e => by cases e)
          have hF2 := heap_alloc_new w1 (.cells #[.int .i64 3, .int .i64 0, .string ⟨#[]⟩, .string ⟨#[]⟩, .float .f64 0, .int .i64 0, .int .u64 0, .slice none 0 0, .int .i64 0, .int .i64 0] 29)
          obtain ⟨F, hF⟩ : ∃ F, F = w1.heap.size := ⟨_, rfl⟩
          obtain ⟨W2, hW2⟩ : ∃ W, W = w1.alloc (.cells #[.int .i64 3, .int .i64 0, .string ⟨#[]⟩, .string ⟨#[]⟩, .float .f64 0, .int .i64 0, .int .u64 0, .slice none 0 0, .int .i64 0, .int .i64 0] 29) := ⟨_, rfl⟩
          rw [← hF] at hF2 hfr hlt1
          rw [← hW2] at hs2 hF2
          simp only [← hF]
          rw [← hW2]
          have hFA : F ≠ w.heap.size := by have := hfr.1; omega
          have nB : (F = w.heap.size + 1) = False := eq_false (by have := hfr.1; omega)
          have nB' : (w.heap.size + 1 = F) = False := eq_false (by have := hfr.1; omega)
          have HS2 := Lib.hid hs2
          have HF2 := Lib.hid hF2
          have HFR := Lib.hid hfr
          clear hs2 hF2 hfr hF hW2 hlt1
          obtain ⟨y0, y1, y2, y3, y4, y5, y6, y7, y8, y9⟩ := cells10 HF2.out
          obtain ⟨V, hV⟩ : ∃ V, V = W2 := ⟨_, rfl⟩
          have hsV : SI w V M lv acc vks := by rw [hV]; exact HS2.out
          have hFV : V.heap[F]? = some (.cells #[.int .i64 3, .int .i64 0, .string ⟨#[]⟩, .string ⟨#[]⟩, .float .f64 0, .int .i64 0, .int .u64 0, .slice none 0 0, .int .i64 0, .int .i64 0] 29 (0, 0)) := by rw [hV]; exact HF2.out
          obtain ⟨z0, z1, z2, z3, z4, z5, z6, z7, z8, z9⟩ := cells10 hFV
          have cB := (cell_of_row _ _ 0 _ _ _ hsV.b).trans (show _ = some lv from rfl)
          rw [hV] at z0 z1 z2 z3 z4 z5 z6 z7 z8 z9 cB
          have HSV := Lib.hid hsV
          have HV := Lib.hid hV
          obtain ⟨ii, zz, i1, i2, i3, i4, i5⟩ := act_info
          have I1 := Lib.hid i1
          have I2 := Lib.hid i2
          have I3 := Lib.hid i3
          have I4 := Lib.hid i4
          have I5 := Lib.hid i5
          have hsz : V.heap.size = W2.heap.size := by rw [hV]
          have hnw := heap_alloc_new V (.cells #[.int .i64 3, .int .i64 0, .string ⟨#[]⟩, .string ⟨#[]⟩, .float .f64 0, .int .i64 0, .int .u64 0, .slice none 0 0, .int .i64 0, .int .i64 0] 29)
          rw [hsz, hV] at hnw
          have HNW := Lib.hid hnw
          have HSZ := Lib.hid hsz
          have ha5 := lt_of_rowS HSV.out.e
          have hv5 := HSV.out.bel.size
          clear hV hsV hFV i1 i2 i3 i4 i5 hnw hsz
          go_wp2_with (at_builtin; refine wpList_append_lies _ rfl _ _ 22 rfl (w.heap.size + 5) 29 ii zz 10 112 Try.underlying22 I1.out I2.out I3.out I4.out I5.out (by decide) lv acc.length (rows acc vks) rfl ?h20 ⟨W2.heap.size, 0, none⟩ 1 1 (#[.int .i64 3, .int .i64 0, .string ⟨#[]⟩, .string ⟨#[]⟩, .float .f64 0, .int .i64 0, .int .u64 0, .slice none 0 0, .int .i64 0, .int .i64 0] : Array Value).toList rfl rfl ?h21 ?h22 ?h23 ?h24 ?h25 ?h26 _ rfl ?_)
          case h20 => rw [← HV.out]; exact HSV.out.own.alloc _
          case h22 => simp [Value.oneCell']
          case h23 => decide
          case h24 => (try clear wx wx2); simp only [maxLen]; omega
          case h25 => (try clear wx wx2); omega
          case h26 => (try clear wx wx2); rw [← HV.out, alloc_size]; omega
          (try clear wx wx2)
          intro g cap w5 hown hg hw hlt5
          rw [← HV.out] at hg
          have hw' : lv.ownBlock = some g ∨ g = (V.alloc (.cells #[.int .i64 3, .int .i64 0, .string ⟨#[]⟩, .string ⟨#[]⟩, .float .f64 0, .int .i64 0, .int .u64 0, .slice none 0 0, .int .i64 0, .int .i64 0] 29)).heap.size := by rw [alloc_size, HSZ.out]; exact hw
          clear z0 z1 z2 z3 z4 z5 z6 z7 z8 z9 cB
          have hb1 : Below V.heap.size V (V.alloc (.cells #[.int .i64 3, .int .i64 0, .string ⟨#[]⟩, .string ⟨#[]⟩, .float .f64 0, .int .i64 0, .int .u64 0, .slice none 0 0, .int .i64 0, .int .i64 0] 29)) := (Below.refl _ _).alloc (Nat.le_refl _) _
          have hsp := HSV.out.push hb1 { Ac.zero with kind := 3 } (.slice none 0 0) (World.ownsRow_nil _ _ _ _) (fun _ e => by cases e) g cap hown hg hw'
          have hb5 : w5.heap[w.heap.size + 1]? = some (.cells #[lv] 22 (0, 0)) := (hg.block _ (by rw [alloc_size]; omega) (fun e => by have := (own_geS HSV.out.own _ e).1; omega)).trans ((heap_alloc_old _ _ (by omega)).trans HSV.out.b)
          have cB := (cell_of_row _ _ 0 _ _ _ hb5).trans (show _ = some lv from rfl)
          have fB := frozen_of_row _ _ 0 _ _ hb5
          have HSP := Lib.hid hsp
          clear hb1 hsp hb5 hown hg hw hw' hlt5 ha5 hv5
          go_wp2_with fail
          go_roundw
          case rel => exact ⟨M, _, _, _, HSP.out, HRD.out.ok hL (by simp [rdOne, HR.out]) (by omega), by rw [List.length_append]; simp only [List.length_cons, List.length_nil]; omega⟩
          case measure => rw [HSP.out.left, HSI.out.left]; omega

        · go_wp2_with fail
          refine (must_true 5 _).mono ?_; rintro e w2 ⟨rfl, rfl⟩
          have hs2 : SI w (w1.alloc (.cells #[.int .i64 4, .int .i64 0, .string ⟨#[]⟩, .string ⟨#[]⟩, .float .f64 0, .int .i64 0, .int .u64 0, .slice none 0 0, .int .i64 0, .int .i64 0] 29)) M lv acc vks := HS1.out.kept (World.grownBy_alloc w1 _ none) (fun _ e => by cases e)
          have hF2 := heap_alloc_new w1 (.cells #[.int .i64 4, .int .i64 0, .string ⟨#[]⟩, .string ⟨#[]⟩, .float .f64 0, .int .i64 0, .int .u64 0, .slice none 0 0, .int .i64 0, .int .i64 0] 29)
          obtain ⟨F, hF⟩ : ∃ F, F = w1.heap.size := ⟨_, rfl⟩
          obtain ⟨W2, hW2⟩ : ∃ W, W = w1.alloc (.cells #[.int .i64 4, .int .i64 0, .string ⟨#[]⟩, .string ⟨#[]⟩, .float .f64 0, .int .i64 0, .int .u64 0, .slice none 0 0, .int .i64 0, .int .i64 0] 29) := ⟨_, rfl⟩
          rw [← hF] at hF2 hfr hlt1
          rw [← hW2] at hs2 hF2
          simp only [← hF]
          rw [← hW2]
          have hFA : F ≠ w.heap.size := by have := hfr.1; omega
          have nB : (F = w.heap.size + 1) = False := eq_false (by have := hfr.1; omega)
          have nB' : (w.heap.size + 1 = F) = False := eq_false (by have := hfr.1; omega)
          have HS2 := Lib.hid hs2
          have HF2 := Lib.hid hF2
          have HFR := Lib.hid hfr
          clear hs2 hF2 hfr hF hW2 hlt1
          have cE2 := (cell_of_row _ _ 0 _ _ _ HS2.out.e).trans (show _ = some (numF (w.heap.size + 3)) from rfl)
          unfold numF at cE2
          obtain ⟨z0, z1, z2, z3, z4, z5, z6, z7, z8, z9⟩ := cells10 HF2.out
          go_wp2_with fail
          clear z0 z1 z2 z3 z4 z5 z6 z7 z8 z9
          rcases HS2.out.num 2 (by omega) (by omega) with ⟨x, R, hr3, hx3, hl3, C⟩ | ⟨hr3, C⟩
          rotate_left
          · refine C.mono ?_; rintro e w9 ⟨rfl, rfl⟩
            go_wp2_with fail
            refine door_wrong _ (w.heap.size + 1) (w.heap.size + 2) _ 0 6 w _ rfl rfl (by omega) HS2.out.b HS2.out.c (by omega) (by omega) HS2.out.bel _ (fun _ h => ?_)
            have ed := HRD.out.bad (x := 6) hL (by simp [rdOne, HR.out, rdN, hr3])
            rw [ed.1, ed.2]
            exact ⟨⟨_, rfl, Or.inl ⟨rfl, none, 0, rfl⟩⟩, h⟩
          refine C.mono ?_; rintro e W3 ⟨rfl, hm⟩
          have hF3 := (hm.1.block F (lt_of_rowS HF2.out) (fun e => hFA (Option.some.inj e))).trans HF2.out
          have HS3 := Lib.hid (HS2.out.mv hm)
          have HF3 := Lib.hid hF3
          have HR3 := Lib.hid hr3
          clear C hm hF3 hr3 cE2
          have c6 := (cell_of_row _ _ 6 _ _ _ HF3.out).trans (show _ = some _ from rfl)
          have f6 := frozen_of_row _ _ 6 _ _ HF3.out
          obtain ⟨V, hV⟩ : ∃ V, V = W3.setCell ⟨F, 6, none⟩ (.int .u64 (x : Nat)) := ⟨_, rfl⟩
          have hsV : SI w V R lv acc vks := by rw [hV]; exact HS3.out.kept (grown_setS W3 ⟨F, 6, none⟩ _) (fun q e => by rw [show q = F from Option.some.inj e]; exact HFR.out)
          have hFV : V.heap[F]? = some (.cells #[.int .i64 4, .int .i64 0, .string ⟨#[]⟩, .string ⟨#[]⟩, .float .f64 0, .int .i64 0, .int .u64 (x : Nat), .slice none 0 0, .int .i64 0, .int .i64 0] 29 (0, 0)) := by rw [hV, heap_setCell_same _ _ _ _ _ _ HF3.out]; rfl
          obtain ⟨z0, z1, z2, z3, z4, z5, z6, z7, z8, z9⟩ := cells10 hFV
          have cB := (cell_of_row _ _ 0 _ _ _ hsV.b).trans (show _ = some lv from rfl)
          rw [hV] at z0 z1 z2 z3 z4 z5 z6 z7 z8 z9 cB
          have HSV := Lib.hid hsV
          have HV := Lib.hid hV
          obtain ⟨ii, zz, i1, i2, i3, i4, i5⟩ := act_info
          have I1 := Lib.hid i1
          have I2 := Lib.hid i2
          have I3 := Lib.hid i3
          have I4 := Lib.hid i4
          have I5 := Lib.hid i5
          have hsz : V.heap.size = W3.heap.size := by rw [hV]; unfold World.setCell; simp
          have hnw := heap_alloc_new V (.cells #[.int .i64 4, .int .i64 0, .string ⟨#[]⟩, .string ⟨#[]⟩, .float .f64 0, .int .i64 0, .int .u64 (x : Nat), .slice none 0 0, .int .i64 0, .int .i64 0] 29)
          rw [hsz, hV] at hnw
          have HNW := Lib.hid hnw
          have HSZ := Lib.hid hsz
          have ha5 := lt_of_rowS HSV.out.e
          have hv5 := HSV.out.bel.size
          clear hV hsV hFV i1 i2 i3 i4 i5 hnw hsz
          go_wp2_with (at_builtin; refine wpList_append_lies _ rfl _ _ 22 rfl (w.heap.size + 5) 29 ii zz 10 112 Try.underlying22 I1.out I2.out I3.out I4.out I5.out (by decide) lv acc.length (rows acc vks) rfl ?h90 ⟨W3.heap.size, 0, none⟩ 1 1 (#[.int .i64 4, .int .i64 0, .string ⟨#[]⟩, .string ⟨#[]⟩, .float .f64 0, .int .i64 0, .int .u64 (x : Nat), .slice none 0 0, .int .i64 0, .int .i64 0] : Array Value).toList rfl rfl ?h91 ?h92 ?h93 ?h94 ?h95 ?h96 _ rfl ?_)
          case h90 => rw [← HV.out]; exact HSV.out.own.alloc _
          case h92 => simp [Value.oneCell']
          case h93 => decide
          case h94 => (try clear wx wx2); simp only [maxLen]; omega
          case h95 => (try clear wx wx2); omega
          case h96 => (try clear wx wx2); rw [← HV.out, alloc_size]; omega
          (try clear wx wx2)
          intro g cap w5 hown hg hw hlt5
          rw [← HV.out] at hg
          have hw' : lv.ownBlock = some g ∨ g = (V.alloc (.cells #[.int .i64 4, .int .i64 0, .string ⟨#[]⟩, .string ⟨#[]⟩, .float .f64 0, .int .i64 0, .int .u64 (x : Nat), .slice none 0 0, .int .i64 0, .int .i64 0] 29)).heap.size := by rw [alloc_size, HSZ.out]; exact hw
          clear z0 z1 z2 z3 z4 z5 z6 z7 z8 z9 cB
          have hb1 : Below V.heap.size V (V.alloc (.cells #[.int .i64 4, .int .i64 0, .string ⟨#[]⟩, .string ⟨#[]⟩, .float .f64 0, .int .i64 0, .int .u64 (x : Nat), .slice none 0 0, .int .i64 0, .int .i64 0] 29)) := (Below.refl _ _).alloc (Nat.le_refl _) _
          have hsp := HSV.out.push hb1 { Ac.zero with kind := 4, n := x } (.slice none 0 0) (World.ownsRow_nil _ _ _ _) (fun _ e => by cases e) g cap hown hg hw'
          have hb5 : w5.heap[w.heap.size + 1]? = some (.cells #[lv] 22 (0, 0)) := (hg.block _ (by rw [alloc_size]; omega) (fun e => by have := (own_geS HSV.out.own _ e).1; omega)).trans ((heap_alloc_old _ _ (by omega)).trans HSV.out.b)
          have cB := (cell_of_row _ _ 0 _ _ _ hb5).trans (show _ = some lv from rfl)
          have fB := frozen_of_row _ _ 0 _ _ hb5
          have HSP := Lib.hid hsp
          clear hb1 hsp hb5 hown hg hw hw' hlt5 ha5 hv5
          go_wp2_with fail
          go_roundw
          case rel => exact ⟨R, _, _, _, HSP.out, HRD.out.ok hL (by simp [rdOne, HR.out, rdN, HR3.out]) (by omega), by rw [List.length_append]; simp only [List.length_cons, List.length_nil]; omega⟩
          case measure => rw [HSP.out.left, HSI.out.left]; omega

        · go_wp2_with fail
          refine (must_true 5 _).mono ?_; rintro e w2 ⟨rfl, rfl⟩
          have hs2 : SI w (w1.alloc (.cells #[.int .i64 5, .int .i64 0, .string ⟨#[]⟩, .string ⟨#[]⟩, .float .f64 0, .int .i64 0, .int .u64 0, .slice none 0 0, .int .i64 0, .int .i64 0] 29)) M lv acc vks := HS1.out.kept (World.grownBy_alloc w1 _ none) (fun _ e => by cases e)
          have hF2 := heap_alloc_new w1 (.cells #[.int .i64 5, .int .i64 0, .string ⟨#[]⟩, .string ⟨#[]⟩, .float .f64 0, .int .i64 0, .int .u64 0, .slice none 0 0, .int .i64 0, .int .i64 0] 29)
          obtain ⟨F, hF⟩ : ∃ F, F = w1.heap.size := ⟨_, rfl⟩
          obtain ⟨W2, hW2⟩ : ∃ W, W = w1.alloc (.cells #[.int .i64 5, .int .i64 0, .string ⟨#[]⟩, .string ⟨#[]⟩, .float .f64 0, .int .i64 0, .int .u64 0, .slice none 0 0, .int .i64 0, .int .i64 0] 29) := ⟨_, rfl⟩
          rw [← hF] at hF2 hfr hlt1
          rw [← hW2] at hs2 hF2
          simp only [← hF]
          rw [← hW2]
          have hFA : F ≠ w.heap.size := by have := hfr.1; omega
          have nB : (F = w.heap.size + 1) = False := eq_false (by have := hfr.1; omega)
          have nB' : (w.heap.size + 1 = F) = False := eq_false (by have := hfr.1; omega)
          have HS2 := Lib.hid hs2
          have HF2 := Lib.hid hF2
          have HFR := Lib.hid hfr
          clear hs2 hF2 hfr hF hW2 hlt1
          have cE2 := (cell_of_row _ _ 0 _ _ _ HS2.out.e).trans (show _ = some (numF (w.heap.size + 3)) from rfl)
          unfold numF at cE2
          obtain ⟨z0, z1, z2, z3, z4, z5, z6, z7, z8, z9⟩ := cells10 HF2.out
          go_wp2_with fail
          clear z0 z1 z2 z3 z4 z5 z6 z7 z8 z9
          rcases HS2.out.num 1 (by omega) (by omega) with ⟨c, L1, hr3, hx3, hl3, C⟩ | ⟨hr3, C⟩
          rotate_left
          · refine C.mono ?_; rintro e w9 ⟨rfl, rfl⟩
            go_wp2_with fail
            refine door_wrong _ (w.heap.size + 1) (w.heap.size + 2) _ 0 6 w _ rfl rfl (by omega) HS2.out.b HS2.out.c (by omega) (by omega) HS2.out.bel _ (fun _ h => ?_)
            have ed := HRD.out.bad (x := 6) hL (by simp [rdOne, HR.out, rdCrash, hr3])
            rw [ed.1, ed.2]
            exact ⟨⟨_, rfl, Or.inl ⟨rfl, none, 0, rfl⟩⟩, h⟩
          refine C.mono ?_; rintro e W3 ⟨rfl, hm⟩
          have hF3 := (hm.1.block F (lt_of_rowS HF2.out) (fun e => hFA (Option.some.inj e))).trans HF2.out
          have HS3 := Lib.hid (HS2.out.mv hm)
          have HF3 := Lib.hid hF3
          have HR3 := Lib.hid hr3
          clear C hm hF3 hr3 cE2
          have hki0 : KI w W3 lv acc vks F c L1 0 [] (.slice none 0 0) L1 := KI.start HS3.out HF3.out
          have HKI0 := Lib.hid hki0
          have HF3b := lt_of_rowS HF3.out
          have HB3 := HF3.out
          clear hki0
          have cE3 := (cell_of_row _ _ 0 _ _ _ HS3.out.e).trans (show _ = some (numF (w.heap.size + 3)) from rfl)
          go_wp2_with fail
          go_loopw [69] (fun i W4 => ∃ (q : Nat) (kl : List Bool) (kv : Value) (L2 : List UInt8), q ≤ c ∧ i = .int .u64 (q : Nat) ∧ KI w W4 lv acc vks F c L1 q kl kv L2) (fun i _ => c - (intOf i).toNat)
          case atStart => exact ⟨0, [], _, L1, by omega, rfl, HKI0.out⟩
          case round =>
            obtain ⟨q, kl, kv, L2, hqc', rfl, ki⟩ := hrel
            have KI0 := Lib.hid ki
            have HS4 := Lib.hid ki.si
            have HF4 := Lib.hid ki.f
            have HO4 := Lib.hid ki.ob
            have HFK := Lib.hid ki.fr
            have hcn := ki.cnt
            have HKL := Lib.hid ki.len
            clear ki
            have cE4 := (cell_of_row _ _ 0 _ _ _ HS4.out.e).trans (show _ = some (numF (w.heap.size + 3)) from rfl)
            unfold numF at cE4
            by_cases hqc : q < c
            · have qd : decide ((q : Int) < (c : Int)) = true := decide_eq_true (Int.ofNat_lt.2 hqc)
              have qd2 : (q < c) = True := eq_true hqc
              go_wp2_with fail
              rcases HS4.out.num 1 (by omega) (by omega) with ⟨x, M5, hr5, hx5, hl5, C⟩ | ⟨hr5, C⟩
              rotate_left
              · refine C.mono ?_; rintro e w9 ⟨rfl, rfl⟩
                have kb := KI0.out.bad hqc hr5
                go_wp2_with fail
                refine door_wrong _ (w.heap.size + 1) (w.heap.size + 2) _ 0 6 w _ rfl rfl (by omega) HS4.out.b HS4.out.c (by omega) (by omega) HS4.out.bel _ (fun _ h => ?_)
                have ed := HRD.out.bad (x := 6) hL (by simp [rdOne, HR.out, rdCrash, HR3.out, kb])
                rw [ed.1, ed.2]
                exact ⟨⟨_, rfl, Or.inl ⟨rfl, none, 0, rfl⟩⟩, h⟩
              refine C.mono ?_; rintro e W5 ⟨rfl, hm⟩
              have hF5 := (hm.1.block F (lt_of_rowS HF4.out) (fun e => hFA (Option.some.inj e))).trans HF4.out
              have HS5 := Lib.hid (HS4.out.mv hm)
              have HF5 := Lib.hid hF5
              have HO5 := Lib.hid (Ob.mv HO4.out hm)
              have MV5 := Lib.hid hm
              clear C hm hF5 cE4
              by_cases hx1 : x ≤ 1
              · have hx01 : x = 0 ∨ x = 1 := by omega
                rcases hx01 with rfl | rfl
                · have cE := (cell_of_row _ _ 0 _ _ _ HS5.out.e).trans (show _ = some (numF (w.heap.size + 3)) from rfl)
                  obtain ⟨z0, z1, z2, z3, z4, z5, z6, z7, z8, z9⟩ := cells10 HF5.out
                  have f7 := frozen_of_row _ _ 7 _ _ HF5.out
                  have hnw := heap_alloc_new W5 (.cells #[.bool false] 4)
                  have HNW := Lib.hid hnw
                  obtain ⟨ii, i1, i2, i3, i4⟩ := bool_info
                  have I1 := Lib.hid i1
                  have I2 := Lib.hid i2
                  have I3 := Lib.hid i3
                  have I4 := Lib.hid i4
                  have hv5 := HS5.out.bel.size
                  have ha5 := lt_of_rowS HS5.out.e
                  clear i1 i2 i3 i4 hnw
                  go_wp2_with fail
                  refine (must_true 5 _).mono ?_; rintro e w8 ⟨rfl, rfl⟩
                  go_wp2_with (at_builtin; refine wpList_append_lies _ rfl _ _ 27 rfl (w.heap.size + 5) 4 ii (.bool false) 1 1 Try.underlying27 I1.out I2.out I3.out I4.out rfl (by decide) kv kl.length (kl.map Value.bool) rfl ?h40 ⟨W5.heap.size, 0, none⟩ 1 1 [.bool false] rfl rfl ?h41 ?h42 ?h43 ?h44 ?h45 ?h46 _ rfl ?_)
                  case h40 => exact World.ownsRow.alloc HO5.out _
                  case h41 => exact World.news_of_block HNW.out
                  case h42 => simp [Value.oneCell']
                  case h43 => decide
                  case h44 => have := HKL.out; simp only [maxLen]; omega
                  case h45 => have := HKL.out; omega
                  case h46 => rw [alloc_size]; omega
                  intro g cap w6 hown hg hw hlt5
                  have hw' : kv.ownBlock = some g ∨ g = (W5.alloc (.cells #[.bool false] 4)).heap.size := by rw [alloc_size]; exact hw
                  have hF6 : w6.heap[F]? = some (.cells #[.int .i64 5, .int .i64 0, .string ⟨#[]⟩, .string ⟨#[]⟩, .float .f64 0, .int .i64 0, .int .u64 0, kv, .int .i64 0, .int .i64 0] 29 (0, 0)) := (hg.block F (by rw [alloc_size]; have := lt_of_rowS HF5.out; omega) (fun e => (KI0.out.fr F e).2 rfl)).trans ((heap_alloc_old _ _ (lt_of_rowS HF5.out)).trans HF5.out)
                  have kin := KI0.out.step HFR.out HF3b hqc hr5 MV5.out g cap hown hg hw' hF6
                  have c7 := (cell_of_row _ _ 7 _ _ _ hF6).trans (show _ = some kv from rfl)
                  have f7 := frozen_of_row _ _ 7 _ _ hF6
                  have KIN := Lib.hid kin
                  clear z0 z1 z2 z3 z4 z5 z6 z7 z8 z9 kin hF6 hown hg hw hw' hlt5 cE
                  have wq : IntKind.u64.wrap ((q : Int) + 1) = ((q + 1 : Nat) : Int) := by rw [show (q : Int) + 1 = ((q + 1 : Nat) : Int) from rfl]; exact u64S _ (by omega)
                  go_wp2_with fail
                  go_roundw
                  case rel => exact ⟨q + 1, kl ++ [false], _, M5, by omega, by first | rfl | rw [wq], by exact KIN.out⟩
                  case measure => simp [intOf]; omega
                · have cE := (cell_of_row _ _ 0 _ _ _ HS5.out.e).trans (show _ = some (numF (w.heap.size + 3)) from rfl)
                  obtain ⟨z0, z1, z2, z3, z4, z5, z6, z7, z8, z9⟩ := cells10 HF5.out
                  have f7 := frozen_of_row _ _ 7 _ _ HF5.out
                  have hnw := heap_alloc_new W5 (.cells #[.bool true] 4)
                  have HNW := Lib.hid hnw
                  obtain ⟨ii, i1, i2, i3, i4⟩ := bool_info
                  have I1 := Lib.hid i1
                  have I2 := Lib.hid i2
                  have I3 := Lib.hid i3
                  have I4 := Lib.hid i4
                  have hv5 := HS5.out.bel.size
                  have ha5 := lt_of_rowS HS5.out.e
                  clear i1 i2 i3 i4 hnw
                  go_wp2_with fail
                  refine (must_true 5 _).mono ?_; rintro e w8 ⟨rfl, rfl⟩
                  go_wp2_with (at_builtin; refine wpList_append_lies _ rfl _ _ 27 rfl (w.heap.size + 5) 4 ii (.bool false) 1 1 Try.underlying27 I1.out I2.out I3.out I4.out rfl (by decide) kv kl.length (kl.map Value.bool) rfl ?h50 ⟨W5.heap.size, 0, none⟩ 1 1 [.bool true] rfl rfl ?h51 ?h52 ?h53 ?h54 ?h55 ?h56 _ rfl ?_)
                  case h50 => exact World.ownsRow.alloc HO5.out _
                  case h51 => exact World.news_of_block HNW.out
                  case h52 => simp [Value.oneCell']
                  case h53 => decide
                  case h54 => have := HKL.out; simp only [maxLen]; omega
                  case h55 => have := HKL.out; omega
                  case h56 => rw [alloc_size]; omega
                  intro g cap w6 hown hg hw hlt5
                  have hw' : kv.ownBlock = some g ∨ g = (W5.alloc (.cells #[.bool true] 4)).heap.size := by rw [alloc_size]; exact hw
                  have hF6 : w6.heap[F]? = some (.cells #[.int .i64 5, .int .i64 0, .string ⟨#[]⟩, .string ⟨#[]⟩, .float .f64 0, .int .i64 0, .int .u64 0, kv, .int .i64 0, .int .i64 0] 29 (0, 0)) := (hg.block F (by rw [alloc_size]; have := lt_of_rowS HF5.out; omega) (fun e => (KI0.out.fr F e).2 rfl)).trans ((heap_alloc_old _ _ (lt_of_rowS HF5.out)).trans HF5.out)
                  have kin := KI0.out.step HFR.out HF3b hqc hr5 MV5.out g cap hown hg hw' hF6
                  have c7 := (cell_of_row _ _ 7 _ _ _ hF6).trans (show _ = some kv from rfl)
                  have f7 := frozen_of_row _ _ 7 _ _ hF6
                  have KIN := Lib.hid kin
                  clear z0 z1 z2 z3 z4 z5 z6 z7 z8 z9 kin hF6 hown hg hw hw' hlt5 cE
                  have wq : IntKind.u64.wrap ((q : Int) + 1) = ((q + 1 : Nat) : Int) := by rw [show (q : Int) + 1 = ((q + 1 : Nat) : Int) from rfl]; exact u64S _ (by omega)
                  go_wp2_with fail
                  go_roundw
                  case rel => exact ⟨q + 1, kl ++ [true], _, M5, by omega, by first | rfl | rw [wq], by exact KIN.out⟩
                  case measure => simp [intOf]; omega
              · have xd : decide ((x : Int) ≤ 1) = false := decide_eq_false (fun h => hx1 (Int.ofNat_le.1 h))
                have xd2 : (x ≤ 1) = False := eq_false hx1
                go_wp2_with fail
                refine (must_false 5 _).mono ?_; rintro e w8 ⟨rfl, rfl⟩
                have kb := KI0.out.bad2 hqc hr5 hx1
                go_wp2_with fail
                refine door_wrong _ (w.heap.size + 1) (w.heap.size + 2) _ 0 5 w _ rfl rfl (by omega) HS5.out.b HS5.out.c (by omega) (by omega) HS5.out.bel _ (fun _ h => ?_)
                have ed := HRD.out.bad (x := 5) hL (by simp [rdOne, HR.out, rdCrash, HR3.out, kb])
                rw [ed.1, ed.2]
                exact ⟨⟨_, rfl, Or.inl ⟨rfl, none, 0, rfl⟩⟩, h⟩
            · have hqe : q = c := by omega
              have hB := KI0.out.done hqe
              have qd : decide ((q : Int) < (c : Int)) = false := decide_eq_false (fun h => hqc (Int.ofNat_lt.1 h))
              have qd2 : (q < c) = False := eq_false hqc
              obtain ⟨ka, kc, rfl⟩ := (Sb.of_own HO4.out).form
              have HB := Lib.hid hB
              clear hB KI0
              go_wp2_with fail
              rcases HS4.out.num 2 (by omega) (by omega) with ⟨to, L3, hr5, hx5, hl5, C⟩ | ⟨hr5, C⟩
              rotate_left
              · refine C.mono ?_; rintro e w9 ⟨rfl, rfl⟩
                go_wp2_with fail
                refine door_wrong _ (w.heap.size + 1) (w.heap.size + 2) _ 0 6 w _ rfl rfl (by omega) HS4.out.b HS4.out.c (by omega) (by omega) HS4.out.bel _ (fun _ h => ?_)
                have ed := HRD.out.bad (x := 6) hL (by simp [rdOne, HR.out, rdCrash, HR3.out, HB.out, hr5])
                rw [ed.1, ed.2]
                exact ⟨⟨_, rfl, Or.inl ⟨rfl, none, 0, rfl⟩⟩, h⟩
              refine C.mono ?_; rintro e W5 ⟨rfl, hm⟩
              have hF5 := (hm.1.block F (lt_of_rowS HF4.out) (fun e => hFA (Option.some.inj e))).trans HF4.out
              have HS5 := Lib.hid (HS4.out.mv hm)
              have HF5 := Lib.hid hF5
              have HR5 := Lib.hid hr5
              have HO5 := Lib.hid (Ob.mv HO4.out hm)
              clear C hm hF5 hr5 cE4
              obtain ⟨wx, wx2⟩ := wrpS to (by omega)
              have c8 := (cell_of_row _ _ 8 _ _ _ HF5.out).trans (show _ = some _ from rfl)
              have f8 := frozen_of_row _ _ 8 _ _ HF5.out
              obtain ⟨W6, hV⟩ : ∃ V, V = W5.setCell ⟨F, 8, none⟩ (.int .i64 (to : Nat)) := ⟨_, rfl⟩
              have hsV : SI w W6 L3 lv acc vks := by rw [hV]; exact HS5.out.kept (grown_setS W5 ⟨F, 8, none⟩ _) (fun q e => by rw [show q = F from Option.some.inj e]; exact HFR.out)
              have hFV : W6.heap[F]? = some (.cells #[.int .i64 5, .int .i64 0, .string ⟨#[]⟩, .string ⟨#[]⟩, .float .f64 0, .int .i64 0, .int .u64 0, .slice ka kl.length kc, .int .i64 (to : Nat), .int .i64 0] 29 (0, 0)) := by rw [hV, heap_setCell_same _ _ _ _ _ _ HF5.out]; rfl
              have cE6 := (cell_of_row _ _ 0 _ _ _ hsV.e).trans (show _ = some (numF (w.heap.size + 3)) from rfl)
              unfold numF at cE6
              rw [hV] at cE6
              have HS6 := Lib.hid hsV
              have HF6 := Lib.hid hFV
              have HV := Lib.hid hV
              have HO6 := Lib.hid (World.ownsRow.kept HO5.out (show W5.grownBy W6 (some F) by rw [hV]; exact grown_setS W5 ⟨F, 8, none⟩ _) (apartS (fun q hq e => (HFK.out q hq).2 (Option.some.inj e))))
              clear hV hsV hFV
              go_wp2_with fail
              rw [← HV.out]
              clear c8 f8 HV
              clear wx wx2
              rcases HS6.out.num 1 (by omega) (by omega) with ⟨pl, L4, hr7, hx7, hl7, C⟩ | ⟨hr7, C⟩
              rotate_left
              · refine C.mono ?_; rintro e w9 ⟨rfl, rfl⟩
                go_wp2_with fail
                refine door_wrong _ (w.heap.size + 1) (w.heap.size + 2) _ 0 6 w _ rfl rfl (by omega) HS6.out.b HS6.out.c (by omega) (by omega) HS6.out.bel _ (fun _ h => ?_)
                have ed := HRD.out.bad (x := 6) hL (by simp [rdOne, HR.out, rdCrash, HR3.out, HB.out, HR5.out, hr7])
                rw [ed.1, ed.2]
                exact ⟨⟨_, rfl, Or.inl ⟨rfl, none, 0, rfl⟩⟩, h⟩
              refine C.mono ?_; rintro e W7 ⟨rfl, hm⟩
              have hF7 := (hm.1.block F (lt_of_rowS HF6.out) (fun e => hFA (Option.some.inj e))).trans HF6.out
              have HS7 := Lib.hid (HS6.out.mv hm)
              have HF7 := Lib.hid hF7
              have HR7 := Lib.hid hr7
              have HO7 := Lib.hid (Ob.mv HO6.out hm)
              clear C hm hF7 hr7 cE6
              by_cases hp : pl ≤ 128
              · have pd : decide ((pl : Int) ≤ 128) = true := decide_eq_true (Int.ofNat_le.2 hp)
                have pd2 : (pl ≤ 128) = True := eq_true hp
                obtain ⟨wx, wx2⟩ := wrpS pl (by omega)
                have c9 := (cell_of_row _ _ 9 _ _ _ HF7.out).trans (show _ = some _ from rfl)
                have f9 := frozen_of_row _ _ 9 _ _ HF7.out
                obtain ⟨W8, hV⟩ : ∃ V, V = W7.setCell ⟨F, 9, none⟩ (.int .i64 (pl : Nat)) := ⟨_, rfl⟩
                have hsV : SI w W8 L4 lv acc vks := by rw [hV]; exact HS7.out.kept (grown_setS W7 ⟨F, 9, none⟩ _) (fun q e => by rw [show q = F from Option.some.inj e]; exact HFR.out)
                have hFV : W8.heap[F]? = some (.cells #[.int .i64 5, .int .i64 0, .string ⟨#[]⟩, .string ⟨#[]⟩, .float .f64 0, .int .i64 0, .int .u64 0, .slice ka kl.length kc, .int .i64 (to : Nat), .int .i64 (pl : Nat)] 29 (0, 0)) := by rw [hV, heap_setCell_same _ _ _ _ _ _ HF7.out]; rfl
                have cE8 := (cell_of_row _ _ 0 _ _ _ hsV.e).trans (show _ = some (numF (w.heap.size + 3)) from rfl)
                unfold numF at cE8
                rw [hV] at cE8
                have HS8 := Lib.hid hsV
                have HF8 := Lib.hid hFV
                have HV := Lib.hid hV
                have HO8 := Lib.hid (World.ownsRow.kept HO7.out (show W7.grownBy W8 (some F) by rw [hV]; exact grown_setS W7 ⟨F, 9, none⟩ _) (apartS (fun q hq e => (HFK.out q hq).2 (Option.some.inj e))))
                clear hV hsV hFV
                go_wp2_with fail
                rw [← HV.out]
                clear c9 f9 HV
                clear wx wx2
                refine (must_true 5 _).mono ?_; rintro e w2 ⟨rfl, rfl⟩
                have cE8 := (cell_of_row _ _ 0 _ _ _ HS8.out.e).trans (show _ = some (numF (w.heap.size + 3)) from rfl)
                unfold numF at cE8
                go_wp2_with fail
                rcases HS8.out.num 8 (by omega) (by omega) with ⟨nn, L5, hr9, hx9, hl9, C⟩ | ⟨hr9, C⟩
                rotate_left
                · refine C.mono ?_; rintro e w9 ⟨rfl, rfl⟩
                  go_wp2_with fail
                  refine door_wrong _ (w.heap.size + 1) (w.heap.size + 2) _ 0 6 w _ rfl rfl (by omega) HS8.out.b HS8.out.c (by omega) (by omega) HS8.out.bel _ (fun _ h => ?_)
                  have ed := HRD.out.bad (x := 6) hL (by simp [rdOne, HR.out, rdCrash, HR3.out, HB.out, HR5.out, HR7.out, (show ¬ 128 < pl by omega), hr9])
                  rw [ed.1, ed.2]
                  exact ⟨⟨_, rfl, Or.inl ⟨rfl, none, 0, rfl⟩⟩, h⟩
                refine C.mono ?_; rintro e W9 ⟨rfl, hm⟩
                have hF9 := (hm.1.block F (lt_of_rowS HF8.out) (fun e => hFA (Option.some.inj e))).trans HF8.out
                have HS9 := Lib.hid (HS8.out.mv hm)
                have HF9 := Lib.hid hF9
                have HR9 := Lib.hid hr9
                have HO9 := Lib.hid (Ob.mv HO8.out hm)
                clear C hm hF9 hr9 cE8
                have c6 := (cell_of_row _ _ 6 _ _ _ HF9.out).trans (show _ = some _ from rfl)
                have f6 := frozen_of_row _ _ 6 _ _ HF9.out
                obtain ⟨V, hV⟩ : ∃ V, V = W9.setCell ⟨F, 6, none⟩ (.int .u64 (nn : Nat)) := ⟨_, rfl⟩
                have hsV : SI w V L5 lv acc vks := by rw [hV]; exact HS9.out.kept (grown_setS W9 ⟨F, 6, none⟩ _) (fun q e => by rw [show q = F from Option.some.inj e]; exact HFR.out)
                have hFV : V.heap[F]? = some (.cells #[.int .i64 5, .int .i64 0, .string ⟨#[]⟩, .string ⟨#[]⟩, .float .f64 0, .int .i64 0, .int .u64 (nn : Nat), .slice ka kl.length kc, .int .i64 (to : Nat), .int .i64 (pl : Nat)] 29 (0, 0)) := by rw [hV, heap_setCell_same _ _ _ _ _ _ HF9.out]; rfl
                obtain ⟨z0, z1, z2, z3, z4, z5, z6, z7, z8, z9⟩ := cells10 hFV
                have cB := (cell_of_row _ _ 0 _ _ _ hsV.b).trans (show _ = some lv from rfl)
                rw [hV] at z0 z1 z2 z3 z4 z5 z6 z7 z8 z9 cB
                have HSV := Lib.hid hsV
                have HV := Lib.hid hV
                obtain ⟨ii, zz, i1, i2, i3, i4, i5⟩ := act_info
                have I1 := Lib.hid i1
                have I2 := Lib.hid i2
                have I3 := Lib.hid i3
                have I4 := Lib.hid i4
                have I5 := Lib.hid i5
                have hsz : V.heap.size = W9.heap.size := by rw [hV]; unfold World.setCell; simp
                have hnw := heap_alloc_new V (.cells #[.int .i64 5, .int .i64 0, .string ⟨#[]⟩, .string ⟨#[]⟩, .float .f64 0, .int .i64 0, .int .u64 (nn : Nat), .slice ka kl.length kc, .int .i64 (to : Nat), .int .i64 (pl : Nat)] 29)
                rw [hsz, hV] at hnw
                have HNW := Lib.hid hnw
                have HSZ := Lib.hid hsz
                have ha5 := lt_of_rowS HSV.out.e
                have hv5 := HSV.out.bel.size
                clear hV hsV hFV i1 i2 i3 i4 i5 hnw hsz
                go_wp2_with (at_builtin; refine wpList_append_lies _ rfl _ _ 22 rfl (w.heap.size + 5) 29 ii zz 10 112 Try.underlying22 I1.out I2.out I3.out I4.out I5.out (by decide) lv acc.length (rows acc vks) rfl ?h60 ⟨W9.heap.size, 0, none⟩ 1 1 (#[.int .i64 5, .int .i64 0, .string ⟨#[]⟩, .string ⟨#[]⟩, .float .f64 0, .int .i64 0, .int .u64 (nn : Nat), .slice ka kl.length kc, .int .i64 (to : Nat), .int .i64 (pl : Nat)] : Array Value).toList rfl rfl ?h61 ?h62 ?h63 ?h64 ?h65 ?h66 _ rfl ?_)
                case h60 => rw [← HV.out]; exact HSV.out.own.alloc _
                case h62 => simp [Value.oneCell']
                case h63 => decide
                case h64 => (try clear wx wx2); simp only [maxLen]; omega
                case h65 => (try clear wx wx2); omega
                case h66 => (try clear wx wx2); rw [← HV.out, alloc_size]; omega
                (try clear wx wx2)
                intro g cap w5 hown hg hw hlt5
                rw [← HV.out] at hg
                have hw' : lv.ownBlock = some g ∨ g = (V.alloc (.cells #[.int .i64 5, .int .i64 0, .string ⟨#[]⟩, .string ⟨#[]⟩, .float .f64 0, .int .i64 0, .int .u64 (nn : Nat), .slice ka kl.length kc, .int .i64 (to : Nat), .int .i64 (pl : Nat)] 29)).heap.size := by rw [alloc_size, HSZ.out]; exact hw
                clear z0 z1 z2 z3 z4 z5 z6 z7 z8 z9 cB
                have hb1 : Below V.heap.size V (V.alloc (.cells #[.int .i64 5, .int .i64 0, .string ⟨#[]⟩, .string ⟨#[]⟩, .float .f64 0, .int .i64 0, .int .u64 (nn : Nat), .slice ka kl.length kc, .int .i64 (to : Nat), .int .i64 (pl : Nat)] 29)) := (Below.refl _ _).alloc (Nat.le_refl _) _
                have hsp := HSV.out.push hb1 { Ac.zero with kind := 5, n := nn, keep := kl, torn := to, pl := pl } (.slice ka kl.length kc) (World.ownsRow.kept HO9.out (show W9.grownBy V (some F) by rw [HV.out]; exact grown_setS W9 ⟨F, 6, none⟩ _) (apartS (fun q hq e => (HFK.out q hq).2 (Option.some.inj e)))) (fun q hq e => (HFK.out q hq).1.2.1 e.symm) g cap hown hg hw'
                have hb5 : w5.heap[w.heap.size + 1]? = some (.cells #[lv] 22 (0, 0)) := (hg.block _ (by rw [alloc_size]; omega) (fun e => by have := (own_geS HSV.out.own _ e).1; omega)).trans ((heap_alloc_old _ _ (by omega)).trans HSV.out.b)
                have cB := (cell_of_row _ _ 0 _ _ _ hb5).trans (show _ = some lv from rfl)
                have fB := frozen_of_row _ _ 0 _ _ hb5
                have HSP := Lib.hid hsp
                clear hb1 hsp hb5 hown hg hw hw' hlt5 ha5 hv5
                go_wp2_with fail
                go_roundw
                case rel => exact ⟨L5, _, _, _, HSP.out, HRD.out.ok hL (by simp [rdOne, HR.out, rdCrash, HR3.out, HB.out, HR5.out, HR7.out, (show ¬ 128 < pl by omega), HR9.out]) (by omega), by rw [List.length_append]; simp only [List.length_cons, List.length_nil]; omega⟩
                case measure => rw [HSP.out.left, HSI.out.left]; omega

              · have pd : decide ((pl : Int) ≤ 128) = false := decide_eq_false (fun h => hp (Int.ofNat_le.1 h))
                have pd2 : (pl ≤ 128) = False := eq_false hp
                obtain ⟨wx, wx2⟩ := wrpS pl (by omega)
                have c9 := (cell_of_row _ _ 9 _ _ _ HF7.out).trans (show _ = some _ from rfl)
                have f9 := frozen_of_row _ _ 9 _ _ HF7.out
                obtain ⟨W8, hV⟩ : ∃ V, V = W7.setCell ⟨F, 9, none⟩ (.int .i64 (pl : Nat)) := ⟨_, rfl⟩
                have hsV : SI w W8 L4 lv acc vks := by rw [hV]; exact HS7.out.kept (grown_setS W7 ⟨F, 9, none⟩ _) (fun q e => by rw [show q = F from Option.some.inj e]; exact HFR.out)
                have hFV : W8.heap[F]? = some (.cells #[.int .i64 5, .int .i64 0, .string ⟨#[]⟩, .string ⟨#[]⟩, .float .f64 0, .int .i64 0, .int .u64 0, .slice ka kl.length kc, .int .i64 (to : Nat), .int .i64 (pl : Nat)] 29 (0, 0)) := by rw [hV, heap_setCell_same _ _ _ _ _ _ HF7.out]; rfl
                have cE8 := (cell_of_row _ _ 0 _ _ _ hsV.e).trans (show _ = some (numF (w.heap.size + 3)) from rfl)
                unfold numF at cE8
                rw [hV] at cE8
                have HS8 := Lib.hid hsV
                have HF8 := Lib.hid hFV
                have HV := Lib.hid hV
                have HO8 := Lib.hid (World.ownsRow.kept HO7.out (show W7.grownBy W8 (some F) by rw [hV]; exact grown_setS W7 ⟨F, 9, none⟩ _) (apartS (fun q hq e => (HFK.out q hq).2 (Option.some.inj e))))
                clear hV hsV hFV
                go_wp2_with fail
                rw [← HV.out]
                clear c9 f9 HV
                clear wx wx2
                refine (must_false 5 _).mono ?_; rintro e w2 ⟨rfl, rfl⟩
                go_wp2_with fail
                refine door_wrong _ (w.heap.size + 1) (w.heap.size + 2) _ 0 5 w _ rfl rfl (by omega) HS8.out.b HS8.out.c (by omega) (by omega) HS8.out.bel _ (fun _ h => ?_)
                have ed := HRD.out.bad (x := 5) hL (by simp [rdOne, HR.out, rdCrash, HR3.out, HB.out, HR5.out, HR7.out, (show 128 < pl by omega)])
                rw [ed.1, ed.2]
                exact ⟨⟨_, rfl, Or.inl ⟨rfl, none, 0, rfl⟩⟩, h⟩
end Go.Proofs.Ytjkiofgllmjkcaa.G
