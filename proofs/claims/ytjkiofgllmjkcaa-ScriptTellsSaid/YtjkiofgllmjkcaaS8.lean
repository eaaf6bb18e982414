/- What ends a reading; the closures of script.Decode: take, number, text. -/
import Derived.Test.YtjkiofgllmjkcaaS6
import Derived.Test.YtjkiofgllmjkcaaS7
import Derived.Deep.RegionHeld
import Derived.Defers
import Derived.Recover
namespace Go.Proofs.Ytjkiofgllmjkcaa.G
open Go.RowKit Go.Proofs.Ytjkiofgllmjkcaa.WordPlain
set_option linter.unusedVariables false
set_option linter.unusedSimpArgs false

def wrongS (x : Int) : Value := .iface 64 (.agg #[.int .i64 x])
theorem must_true (x : Int) (w : World) : Calls Try.prog 28 #[.bool true, .int .i64 x] w fun e w' => e = .returned (.tuple #[]) ∧ w = w' := by
  go_enter Try.func28, Try.ntmps28
  go_wp2_with fail
  first | exact ⟨rfl, rfl⟩ | (go_end0; exact ⟨rfl, rfl⟩) | (refine bodyPost_end (v := .tuple #[]) (by rw [results_none rfl]) rfl ⟨rfl, rfl⟩)
theorem must_false (x : Int) (w : World) : Calls Try.prog 28 #[.bool false, .int .i64 x] w fun e w' => e = .panicked [{ v := wrongS x, recovered := false }] ∧ w = w' := by
  go_enter Try.func28, Try.ntmps28
  go_wp2_with fail
  exact ⟨rfl, rfl, rfl⟩

/-- a world that has gone on: but for one block what stood stands; that one holds the bytes that are left -/
def Mv (A : Nat) (L : List UInt8) (w w' : World) : Prop := w.grownBy w' (some A) ∧ w'.heap[A]? = some (.cells #[.string ⟨L.toArray⟩] 9 (0, 0))
theorem Mv.set {A : Nat} {L M : List UInt8} {w : World} (h : w.heap[A]? = some (.cells #[.string ⟨L.toArray⟩] 9 (0, 0))) : Mv A M w (w.setCell ⟨A, 0, none⟩ (.string ⟨M.toArray⟩)) :=
  ⟨⟨rfl, rfl, rfl, by simp, fun i _ hi => heap_setCell_other _ _ _ _ (fun e => hi (by rw [e]))⟩, by rw [heap_setCell_same _ _ _ _ _ _ h]; rfl⟩
theorem Mv.below {A : Nat} {L : List UInt8} {w w1 w2 : World} (h : Mv A L w w1) (hA : A < w.heap.size) (hb : Below w1.heap.size w1 w2) : Mv A L w w2 :=
  ⟨⟨hb.os.trans h.1.os, hb.tape.trans h.1.tape, hb.output.trans h.1.output, Nat.le_trans h.1.size hb.size, fun i hi hn => (hb.block i (Nat.lt_of_lt_of_le hi h.1.size)).trans (h.1.block i hi hn)⟩, (hb.block A (Nat.lt_of_lt_of_le hA h.1.size)).trans h.2⟩
theorem Mv.trans {A : Nat} {L M : List UInt8} {w w1 w2 : World} (h : Mv A L w w1) (k : Mv A M w1 w2) : Mv A M w w2 :=
  ⟨⟨k.1.os.trans h.1.os, k.1.tape.trans h.1.tape, k.1.output.trans h.1.output, Nat.le_trans h.1.size k.1.size, fun i hi hn => (k.1.block i (Nat.lt_of_lt_of_le hi h.1.size) hn).trans (h.1.block i hi hn)⟩, k.2⟩
theorem ext0 (L : List UInt8) (n : Nat) : (ByteArray.mk L.toArray).extract 0 n = ⟨(L.take n).toArray⟩ := by
  apply ByteArray.ext
  simp [ByteArray.data_extract]
theorem ext1 (L : List UInt8) (n m : Nat) (h : L.length ≤ m) : (ByteArray.mk L.toArray).extract n m = ⟨(L.drop n).toArray⟩ := by
  apply ByteArray.ext
  simp only [ByteArray.data_extract, List.extract_toArray, List.extract_eq_take_drop]
  rw [List.take_of_length_le (by rw [List.length_drop]; omega)]

set_option maxRecDepth 100000 in
theorem take_ok (A n : Nat) (L : List UInt8) (w : World) (h : w.heap[A]? = some (.cells #[.string ⟨L.toArray⟩] 9 (0, 0))) (hn : n ≤ L.length) (hL : L.length ≤ 140737488351232) :
    Calls Try.prog 27 #[.int .i64 (n : Nat), .pointer (some ⟨A, 0, none⟩)] w fun e w' => e = .returned (.string ⟨(L.take n).toArray⟩) ∧ Mv A (L.drop n) w w' := by
  have c := (cell_of_row _ _ 0 _ _ _ h).trans (show _ = some (.string ⟨L.toArray⟩) from rfl)
  have f := frozen_of_row _ _ 0 _ _ h
  have hs : (ByteArray.mk L.toArray).size = L.length := rfl
  have q : decide ((((ByteArray.mk L.toArray).size : Nat) : Int) ≥ (n : Int)) = true := decide_eq_true (by rw [hs]; omega)
  have q' : (n ≤ (ByteArray.mk L.toArray).size) = True := eq_true (by rw [hs]; omega)
  have s1 : ∀ W : World, (Instr.slice 9 (.string ⟨L.toArray⟩) none (some (.int .i64 (n : Int))) none).run Try.prog W = .ok (.string ⟨(L.take n).toArray⟩) W := by
    intro W
    rw [run_slice_string_h W _ _ Try.underlying9 .i64 (n : Int) (by omega) (by omega), Int.toNat_natCast, ext0]
  have s2 : ∀ W : World, (Instr.slice 9 (.string ⟨L.toArray⟩) (some (.int .i64 (n : Int))) none none).run Try.prog W = .ok (.string ⟨(L.drop n).toArray⟩) W := by
    intro W
    rw [run_slice_string_l W _ _ Try.underlying9 .i64 (n : Int) (by omega) (by omega), Int.toNat_natCast, ext1 _ _ _ (by rw [hs]; omega)]
  have MT := Lib.hid (fun W => must_true 6 W)
  have HH := Lib.hid h
  clear h
  go_enter Try.func27, Try.ntmps27
  go_wp2_with fail
  refine (MT.out _).mono ?_; rintro e w1 ⟨rfl, rfl⟩
  go_wp2_with fail
  go_ret
  exact ⟨rfl, Mv.set HH.out⟩

set_option maxRecDepth 100000 in
theorem take_bad (A : Nat) (n : Int) (L : List UInt8) (w : World) (h : w.heap[A]? = some (.cells #[.string ⟨L.toArray⟩] 9 (0, 0))) (hn : (L.length : Int) < n) :
    Calls Try.prog 27 #[.int .i64 n, .pointer (some ⟨A, 0, none⟩)] w fun e w' => e = .panicked [{ v := wrongS 6, recovered := false }] ∧ w = w' := by
  have c := (cell_of_row _ _ 0 _ _ _ h).trans (show _ = some (.string ⟨L.toArray⟩) from rfl)
  have hs : (ByteArray.mk L.toArray).size = L.length := rfl
  have q : decide ((((ByteArray.mk L.toArray).size : Nat) : Int) ≥ n) = false := decide_eq_false (by rw [hs]; omega)
  have q' : (n ≤ (L.length : Int)) = False := eq_false (by omega)
  have MF := Lib.hid (fun W => must_false 6 W)
  clear h hn hs
  go_enter Try.func27, Try.ntmps27
  go_wp2_with fail
  refine (MF.out _).mono ?_; rintro e w1 ⟨rfl, rfl⟩
  exact ⟨rfl, rfl, rfl⟩

def takeF (A : Nat) : Value := .func (.func 27) #[] #[.pointer (some ⟨A, 0, none⟩)]
def numF (B : Nat) : Value := .func (.func 29) #[] #[.pointer (some ⟨B, 0, none⟩)]
theorem wget_take (L : List UInt8) (n : Nat) (h : n ≤ 8) : wget ⟨(L.take n).toArray⟩ = wgl (L.take n) := by
  unfold wget
  rw [List.take_of_length_le (show ((L.take n).toArray.toList).length ≤ 8 by simp; omega)]
set_option maxRecDepth 100000 in
theorem num_ok (A B n : Nat) (L : List UInt8) (w : World) (h : w.heap[A]? = some (.cells #[.string ⟨L.toArray⟩] 9 (0, 0))) (hB : w.heap[B]? = some (.cells #[takeF A] 67 (0, 0))) (hn : n ≤ L.length) (h8 : n ≤ 8) (hL : L.length ≤ 140737488351232) :
    Calls Try.prog 29 #[.int .i64 (n : Nat), .pointer (some ⟨B, 0, none⟩)] w fun e w' => e = .returned (.int .u64 (wgl (L.take n) : Nat)) ∧ Mv A (L.drop n) w w' := by
  have c := (cell_of_row _ _ 0 _ _ _ hB).trans (show _ = some (takeF A) from rfl)
  have T := Lib.hid (take_ok A n L w h hn hL)
  have G := Lib.hid (fun W => Get_val ⟨(L.take n).toArray⟩ W _ (Lib.hid (wget_take L n h8).symm))
  have HA := Lib.hid (lt_of_rowS h)
  unfold takeF at c
  clear h hB hn hL h8
  go_enter Try.func29, Try.ntmps29
  go_wp2_with fail
  refine (T.out).mono ?_; rintro e w1 ⟨rfl, hm⟩
  clear c
  go_wp2_with fail
  refine (G.out _).mono ?_; rintro e w2 ⟨rfl, hb⟩
  go_wp2_with fail
  go_ret
  exact ⟨rfl, hm.below HA.out hb⟩
set_option maxRecDepth 100000 in
theorem num_bad (A B n : Nat) (L : List UInt8) (w : World) (h : w.heap[A]? = some (.cells #[.string ⟨L.toArray⟩] 9 (0, 0))) (hB : w.heap[B]? = some (.cells #[takeF A] 67 (0, 0))) (hn : L.length < n) :
    Calls Try.prog 29 #[.int .i64 (n : Nat), .pointer (some ⟨B, 0, none⟩)] w fun e w' => e = .panicked [{ v := wrongS 6, recovered := false }] ∧ w = w' := by
  have c := (cell_of_row _ _ 0 _ _ _ hB).trans (show _ = some (takeF A) from rfl)
  have T := Lib.hid (take_bad A (n : Int) L w h (by omega))
  unfold takeF at c
  clear h hB hn
  go_enter Try.func29, Try.ntmps29
  go_wp2_with fail
  refine (T.out).mono ?_; rintro e w1 ⟨rfl, rfl⟩
  exact ⟨rfl, rfl, rfl⟩

/-- the class of worlds in which the closures stand -/
def St (A B : Nat) (w w' : World) : Prop := w.grownBy w' (some A)
set_option maxRecDepth 100000 in
set_option maxHeartbeats 1000000 in
theorem text_bad1 (A B E : Nat) (L : List UInt8) (w : World) (h : w.heap[A]? = some (.cells #[.string ⟨L.toArray⟩] 9 (0, 0))) (hB : w.heap[B]? = some (.cells #[takeF A] 67 (0, 0))) (hE : w.heap[E]? = some (.cells #[numF B] 69 (0, 0))) (hBA : B ≠ A) (hEA : E ≠ A) (hL : L.length ≤ 140737488351232) (h1 : L.length < 1) :
    Calls Try.prog 31 #[.pointer (some ⟨B, 0, none⟩), .pointer (some ⟨E, 0, none⟩)] w fun e w' => e = .panicked [{ v := wrongS 6, recovered := false }] ∧ w.grownBy w' (some A) := by
  obtain ⟨W, hW⟩ : ∃ W, W = w.drew := ⟨_, rfl⟩
  have g0 : w.grownBy W none := by rw [hW]; exact ⟨rfl, rfl, rfl, Nat.le_refl _, fun _ _ _ => rfl⟩
  have hWA : W.heap[A]? = some (.cells #[.string ⟨L.toArray⟩] 9 (0, 0)) := by rw [hW]; exact h
  have hWB : W.heap[B]? = some (.cells #[takeF A] 67 (0, 0)) := by rw [hW]; exact hB
  have hWE : W.heap[E]? = some (.cells #[numF B] 69 (0, 0)) := by rw [hW]; exact hE
  have cB := (cell_of_row _ _ 0 _ _ _ hWB).trans (show _ = some (takeF A) from rfl)
  have cE := (cell_of_row _ _ 0 _ _ _ hWE).trans (show _ = some (numF B) from rfl)
  have SB : ∀ V : World, V.heap[B]? = W.heap[B]? ∧ V.heap[E]? = W.heap[E]? → V.cell? ⟨B, 0, none⟩ = some (takeF A) := fun V h => (cell_of_row _ _ 0 _ _ _ (h.1.trans hWB)).trans rfl
  have SE : ∀ V : World, V.heap[B]? = W.heap[B]? ∧ V.heap[E]? = W.heap[E]? → V.cell? ⟨E, 0, none⟩ = some (numF B) := fun V h => (cell_of_row _ _ 0 _ _ _ (h.2.trans hWE)).trans rfl
  go_enter Try.func31, Try.ntmps31
  go_wp2_with fail
  refine Go.wp_region_held_drew (S := fun V => V.heap[B]? = W.heap[B]? ∧ V.heap[E]? = W.heap[E]?) (by kernel_rfl) ?_ (fun _ => ?_)
  · rw [← hW]; exact ⟨rfl, rfl⟩
  rw [← hW]
  clear hW
  have hS0 : W.heap[B]? = W.heap[B]? ∧ W.heap[E]? = W.heap[E]? := ⟨rfl, rfl⟩
  unfold takeF at SB
  unfold numF at SE
  refine wpAnyH_take (i := 0) (v := .func (.func 27) #[] #[.pointer (some ⟨A, 0, none⟩)]) rfl (by kernel_rfl) ?_ ?_ (fun _ _ _ h => h) (Or.inl ⟨by first | kernel_rfl | rfl, ?_⟩) hS0 ?_
  · kernel_rfl
  · kernel_rfl
  · intro V hV; go_simp
  refine wpAnyH_take (i := 1) (v := .func (.func 29) #[] #[.pointer (some ⟨B, 0, none⟩)]) rfl (by kernel_rfl) ?_ ?_ (fun _ _ _ h => h) (Or.inl ⟨by first | kernel_rfl | rfl, ?_⟩) hS0 ?_
  · kernel_rfl
  · kernel_rfl
  · intro V hV; go_simp
  clear SB SE cB cE
  refine wpAnyH_ready (rs := [2]) (by kernel_rfl) (by simp) ?_
  refine AllReadyH.cons rfl (fun K hK => ?_) AllReadyH.nil
  go_simp
  refine (num_bad A B 1 L W hWA hWB h1).mono ?_; rintro e w1 ⟨rfl, rfl⟩
  exact ⟨rfl, rfl, ⟨g0.os, g0.tape, g0.output, g0.size, fun i hi _ => g0.block i hi (by simp)⟩⟩
set_option maxRecDepth 100000 in
set_option maxHeartbeats 1000000 in
theorem text_bad2 (A B E : Nat) (L : List UInt8) (w : World) (h : w.heap[A]? = some (.cells #[.string ⟨L.toArray⟩] 9 (0, 0))) (hB : w.heap[B]? = some (.cells #[takeF A] 67 (0, 0))) (hE : w.heap[E]? = some (.cells #[numF B] 69 (0, 0))) (hBA : B ≠ A) (hEA : E ≠ A) (hL : L.length ≤ 140737488351232) (c : Nat) (M : List UInt8) (h1 : 1 ≤ L.length) (hc : c = wgl (L.take 1)) (hM : M = L.drop 1) (hcb : c < 256) (h2 : M.length < c) :
    Calls Try.prog 31 #[.pointer (some ⟨B, 0, none⟩), .pointer (some ⟨E, 0, none⟩)] w fun e w' => e = .panicked [{ v := wrongS 6, recovered := false }] ∧ w.grownBy w' (some A) := by
  obtain ⟨W, hW⟩ : ∃ W, W = w.drew := ⟨_, rfl⟩
  have g0 : w.grownBy W none := by rw [hW]; exact ⟨rfl, rfl, rfl, Nat.le_refl _, fun _ _ _ => rfl⟩
  have hWA : W.heap[A]? = some (.cells #[.string ⟨L.toArray⟩] 9 (0, 0)) := by rw [hW]; exact h
  have hWB : W.heap[B]? = some (.cells #[takeF A] 67 (0, 0)) := by rw [hW]; exact hB
  have hWE : W.heap[E]? = some (.cells #[numF B] 69 (0, 0)) := by rw [hW]; exact hE
  have cB := (cell_of_row _ _ 0 _ _ _ hWB).trans (show _ = some (takeF A) from rfl)
  have cE := (cell_of_row _ _ 0 _ _ _ hWE).trans (show _ = some (numF B) from rfl)
  have SB : ∀ V : World, V.heap[B]? = W.heap[B]? ∧ V.heap[E]? = W.heap[E]? → V.cell? ⟨B, 0, none⟩ = some (takeF A) := fun V h => (cell_of_row _ _ 0 _ _ _ (h.1.trans hWB)).trans rfl
  have SE : ∀ V : World, V.heap[B]? = W.heap[B]? ∧ V.heap[E]? = W.heap[E]? → V.cell? ⟨E, 0, none⟩ = some (numF B) := fun V h => (cell_of_row _ _ 0 _ _ _ (h.2.trans hWE)).trans rfl
  go_enter Try.func31, Try.ntmps31
  go_wp2_with fail
  refine Go.wp_region_held_drew (S := fun V => V.heap[B]? = W.heap[B]? ∧ V.heap[E]? = W.heap[E]?) (by kernel_rfl) ?_ (fun _ => ?_)
  · rw [← hW]; exact ⟨rfl, rfl⟩
  rw [← hW]
  clear hW
  have hS0 : W.heap[B]? = W.heap[B]? ∧ W.heap[E]? = W.heap[E]? := ⟨rfl, rfl⟩
  unfold takeF at SB
  unfold numF at SE
  refine wpAnyH_take (i := 0) (v := .func (.func 27) #[] #[.pointer (some ⟨A, 0, none⟩)]) rfl (by kernel_rfl) ?_ ?_ (fun _ _ _ h => h) (Or.inl ⟨by first | kernel_rfl | rfl, ?_⟩) hS0 ?_
  · kernel_rfl
  · kernel_rfl
  · intro V hV; go_simp
  refine wpAnyH_take (i := 1) (v := .func (.func 29) #[] #[.pointer (some ⟨B, 0, none⟩)]) rfl (by kernel_rfl) ?_ ?_ (fun _ _ _ h => h) (Or.inl ⟨by first | kernel_rfl | rfl, ?_⟩) hS0 ?_
  · kernel_rfl
  · kernel_rfl
  · intro V hV; go_simp
  clear SB SE cB cE
  refine wpAnyH_ready (rs := [2]) (by kernel_rfl) (by simp) ?_
  refine AllReadyH.cons rfl (fun K hK => ?_) AllReadyH.nil
  go_simp
  have nm := num_ok A B 1 L W hWA hWB h1 (by omega) hL
  rw [← hc, ← hM] at nm
  have hlM : M.length ≤ 140737488351232 := by rw [hM, List.length_drop]; omega
  clear hc hM
  refine nm.mono ?_; rintro e w1 ⟨rfl, hm1⟩
  clear nm
  have hB1 : w1.heap[B]? = W.heap[B]? := hm1.1.block B (lt_of_rowS hWB) (fun e => hBA (Option.some.inj e))
  have hE1 : w1.heap[E]? = W.heap[E]? := hm1.1.block E (lt_of_rowS hWE) (fun e => hEA (Option.some.inj e))
  refine hK.out _ _ ⟨hB1, hE1⟩ (fun _ => ?_)
  clear hK K
  refine wpAnyH_ready (rs := [3]) (by kernel_rfl) (by simp) ?_
  refine AllReadyH.cons rfl (fun K hK => ?_) AllReadyH.nil
  have cv : wrap64 (c : Int) = (c : Int) := IntWalk.wrap64_in _ (by omega)
  have cv2 : IntKind.i64.wrap (c : Int) = (c : Int) := IntWalk.i64_in _ (by omega)
  go_simp
  refine hK.out _ _ ⟨hB1, hE1⟩ (fun _ => ?_)
  clear hK K
  refine wpAnyH_ready (rs := [4]) (by kernel_rfl) (by simp) ?_
  refine AllReadyH.cons rfl (fun K hK => ?_) AllReadyH.nil
  go_simp
  refine (take_bad A c M w1 hm1.2 (by omega)).mono ?_; rintro e w2 ⟨rfl, rfl⟩
  exact ⟨rfl, rfl, ⟨hm1.1.os.trans g0.os, hm1.1.tape.trans g0.tape, hm1.1.output.trans g0.output, Nat.le_trans g0.size hm1.1.size, fun i hi hn => (hm1.1.block i (Nat.lt_of_lt_of_le hi g0.size) hn).trans (g0.block i hi (by simp))⟩⟩
set_option maxRecDepth 100000 in
set_option maxHeartbeats 1000000 in
theorem text_ok (A B E : Nat) (L : List UInt8) (w : World) (h : w.heap[A]? = some (.cells #[.string ⟨L.toArray⟩] 9 (0, 0))) (hB : w.heap[B]? = some (.cells #[takeF A] 67 (0, 0))) (hE : w.heap[E]? = some (.cells #[numF B] 69 (0, 0))) (hBA : B ≠ A) (hEA : E ≠ A) (hL : L.length ≤ 140737488351232) (c : Nat) (M : List UInt8) (h1 : 1 ≤ L.length) (hc : c = wgl (L.take 1)) (hM : M = L.drop 1) (hcb : c < 256) (h2 : c ≤ M.length) :
    Calls Try.prog 31 #[.pointer (some ⟨B, 0, none⟩), .pointer (some ⟨E, 0, none⟩)] w fun e w' => e = .returned (.string ⟨(M.take c).toArray⟩) ∧ Mv A (M.drop c) w w' := by
  obtain ⟨W, hW⟩ : ∃ W, W = w.drew := ⟨_, rfl⟩
  have g0 : w.grownBy W none := by rw [hW]; exact ⟨rfl, rfl, rfl, Nat.le_refl _, fun _ _ _ => rfl⟩
  have hWA : W.heap[A]? = some (.cells #[.string ⟨L.toArray⟩] 9 (0, 0)) := by rw [hW]; exact h
  have hWB : W.heap[B]? = some (.cells #[takeF A] 67 (0, 0)) := by rw [hW]; exact hB
  have hWE : W.heap[E]? = some (.cells #[numF B] 69 (0, 0)) := by rw [hW]; exact hE
  have cB := (cell_of_row _ _ 0 _ _ _ hWB).trans (show _ = some (takeF A) from rfl)
  have cE := (cell_of_row _ _ 0 _ _ _ hWE).trans (show _ = some (numF B) from rfl)
  have SB : ∀ V : World, V.heap[B]? = W.heap[B]? ∧ V.heap[E]? = W.heap[E]? → V.cell? ⟨B, 0, none⟩ = some (takeF A) := fun V h => (cell_of_row _ _ 0 _ _ _ (h.1.trans hWB)).trans rfl
  have SE : ∀ V : World, V.heap[B]? = W.heap[B]? ∧ V.heap[E]? = W.heap[E]? → V.cell? ⟨E, 0, none⟩ = some (numF B) := fun V h => (cell_of_row _ _ 0 _ _ _ (h.2.trans hWE)).trans rfl
  go_enter Try.func31, Try.ntmps31
  go_wp2_with fail
  refine Go.wp_region_held_drew (S := fun V => V.heap[B]? = W.heap[B]? ∧ V.heap[E]? = W.heap[E]?) (by kernel_rfl) ?_ (fun _ => ?_)
  · rw [← hW]; exact ⟨rfl, rfl⟩
  rw [← hW]
  clear hW
  have hS0 : W.heap[B]? = W.heap[B]? ∧ W.heap[E]? = W.heap[E]? := ⟨rfl, rfl⟩
  unfold takeF at SB
  unfold numF at SE
  refine wpAnyH_take (i := 0) (v := .func (.func 27) #[] #[.pointer (some ⟨A, 0, none⟩)]) rfl (by kernel_rfl) ?_ ?_ (fun _ _ _ h => h) (Or.inl ⟨by first | kernel_rfl | rfl, ?_⟩) hS0 ?_
  · kernel_rfl
  · kernel_rfl
  · intro V hV; go_simp
  refine wpAnyH_take (i := 1) (v := .func (.func 29) #[] #[.pointer (some ⟨B, 0, none⟩)]) rfl (by kernel_rfl) ?_ ?_ (fun _ _ _ h => h) (Or.inl ⟨by first | kernel_rfl | rfl, ?_⟩) hS0 ?_
  · kernel_rfl
  · kernel_rfl
  · intro V hV; go_simp
  clear SB SE cB cE
  refine wpAnyH_ready (rs := [2]) (by kernel_rfl) (by simp) ?_
  refine AllReadyH.cons rfl (fun K hK => ?_) AllReadyH.nil
  go_simp
  have nm := num_ok A B 1 L W hWA hWB h1 (by omega) hL
  rw [← hc, ← hM] at nm
  have hlM : M.length ≤ 140737488351232 := by rw [hM, List.length_drop]; omega
  clear hc hM
  refine nm.mono ?_; rintro e w1 ⟨rfl, hm1⟩
  clear nm
  have hB1 : w1.heap[B]? = W.heap[B]? := hm1.1.block B (lt_of_rowS hWB) (fun e => hBA (Option.some.inj e))
  have hE1 : w1.heap[E]? = W.heap[E]? := hm1.1.block E (lt_of_rowS hWE) (fun e => hEA (Option.some.inj e))
  refine hK.out _ _ ⟨hB1, hE1⟩ (fun _ => ?_)
  clear hK K
  refine wpAnyH_ready (rs := [3]) (by kernel_rfl) (by simp) ?_
  refine AllReadyH.cons rfl (fun K hK => ?_) AllReadyH.nil
  have cv : wrap64 (c : Int) = (c : Int) := IntWalk.wrap64_in _ (by omega)
  have cv2 : IntKind.i64.wrap (c : Int) = (c : Int) := IntWalk.i64_in _ (by omega)
  go_simp
  refine hK.out _ _ ⟨hB1, hE1⟩ (fun _ => ?_)
  clear hK K
  refine wpAnyH_ready (rs := [4]) (by kernel_rfl) (by simp) ?_
  refine AllReadyH.cons rfl (fun K hK => ?_) AllReadyH.nil
  go_simp
  refine (take_ok A c M w1 hm1.2 h2 hlM).mono ?_; rintro e w2 ⟨rfl, hm2⟩
  have hB2 : w2.heap[B]? = W.heap[B]? := (hm2.1.block B (Nat.lt_of_lt_of_le (lt_of_rowS hWB) hm1.1.size) (fun e => hBA (Option.some.inj e))).trans hB1
  have hE2 : w2.heap[E]? = W.heap[E]? := (hm2.1.block E (Nat.lt_of_lt_of_le (lt_of_rowS hWE) hm1.1.size) (fun e => hEA (Option.some.inj e))).trans hE1
  refine hK.out _ _ ⟨hB2, hE2⟩ (fun _ => ?_)
  clear hK K
  refine wpAnyH_ready (rs := [5]) (by kernel_rfl) (by simp) ?_
  refine AllReadyH.cons rfl (fun K hK => ?_) AllReadyH.nil
  go_simp
  refine hK.out _ _ ⟨hB2, hE2⟩ (fun _ => ?_)
  clear hK K
  refine wpAnyH_done (by kernel_rfl) ?_ _
  have hmm := hm1.trans hm2
  have hfin : Mv A (M.drop c) w w2 := ⟨⟨hmm.1.os.trans g0.os, hmm.1.tape.trans g0.tape, hmm.1.output.trans g0.output, Nat.le_trans g0.size hmm.1.size, fun i hi hn => (hmm.1.block i (Nat.lt_of_lt_of_le hi g0.size) hn).trans (g0.block i hi (by simp))⟩, hmm.2⟩
  clear hm1 hm2 hmm hB1 hE1 hB2 hE2 hWA hWB hWE h hB hE
  go_wp2_with fail
  go_ret
  exact ⟨rfl, hfin⟩
end Go.Proofs.Ytjkiofgllmjkcaa.G
