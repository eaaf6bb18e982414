/- Time goes on: Tick. -/
import Derived.Test.YtmbidannodelfaaPv
namespace Go.Proofs.Ytmbidannodelfaa.G
open Go.RowKit Go.Maps Go.Proofs.Ytmbidannodelfaa.WordPlain Go.Proofs.Ytmbidannodelfaa.Loose
set_option linter.unusedVariables false
set_option linter.unusedSimpArgs false

theorem PL.time {w : World} {p b n now : Nat} {q : Int} {f : ByteArray → Option Ses} (h : PL w p b n now q f) (t : Nat) (ht : t < 18446744073709551616) : PL (w.setCell ⟨p, 0, none⟩ (.int .u64 (t : Int))) p b n t q f := by
  refine ⟨?_, h.map.kept (heap_setCell_other _ _ _ _ (fun e => h.ne e.symm)), h.ids, ht⟩
  rw [heap_setCell_same _ _ _ _ _ _ h.cells]; rfl
theorem wrap64_of_small (x : Nat) (h : x < 4611686018427387904) : wrap64 (x : Int) = (x : Int) ∧ IntKind.i64.wrap (x : Int) = (x : Int) := ⟨IntWalk.wrap64_in _ (by omega), IntWalk.i64_in _ (by omega)⟩
theorem Mp.self {p b j : Nat} {w w1 : World} {v : Value} (h : Mp p b w w1) : Mp p b w (w1.setCell ⟨p, j, none⟩ v) :=
  ⟨h.os, h.tape, h.output, by simpa using h.size, fun i hi hp hb => (heap_setCell_other _ _ _ _ hp).trans (h.block i hi hp hb)⟩

set_option maxRecDepth 100000 in
set_option maxHeartbeats 4000000 in
theorem Tick_val (w : World) (p b n now : Nat) (q : Int) (f : ByteArray → Option Ses) (t u : Nat) (L M : List Ses) (h : PL w p b n now q f) (hn : n ≤ 1000000) (ht : t < 18446744073709551616) (hu : u = addV now t) (hL : IsSes now f L) (hM : IsSes u f M) (hl : M.length ≤ L.length) (hL6 : L.length ≤ 1000000) :
    Calls Try.prog 11 #[.pointer (some ⟨p, 0, none⟩), .int .u64 (t : Nat)] w fun e w' => e = .returned (.int .i64 (L.length - M.length : Nat)) ∧ PL w' p b n u q f ∧ Mp p b w w' := by
  have hult : u < 18446744073709551616 := by rw [hu]; exact addV_lt _ _ h.nlt ht
  have s1 := sess_is w p b n now q f L h hn hL
  have l1 := fun W => Later_val now t u W h.nlt ht (Lib.hid hu)
  have s2 := fun W (hW : PL W p b n u q f) => sess_is W p b n u q f M hW hn hM
  have hw : ((L.length : Int) - (M.length : Int)) = ((L.length - M.length : Nat) : Int) := by omega
  have hwr := wrap64_of_small (L.length - M.length) (by omega)
  have HP := Lib.hid h
  have S1 := Lib.hid s1
  have L1 := Lib.hid l1
  have S2 := Lib.hid s2
  have HU := Lib.hid hult
  obtain ⟨nl, hnl⟩ : ∃ x, x = L.length := ⟨_, rfl⟩
  obtain ⟨nm, hnm⟩ : ∃ x, x = M.length := ⟨_, rfl⟩
  obtain ⟨nd, hnd⟩ : ∃ x, x = nl - nm := ⟨_, rfl⟩
  rw [← hnl, ← hnm, ← hnd] at hw hwr
  rw [← hnl, ← hnm, ← hnd]
  have HNL := Lib.hid hnl
  have HNM := Lib.hid hnm
  clear h s1 l1 s2 hu hL hM hl hL6 hult hn ht hnl hnm hnd
  go_enter Try.func11, Try.ntmps11
  go_wp2_with fail
  refine (S1.out).mono ?_; rintro e w1 ⟨⟨v, rfl, hv⟩, b1⟩
  obtain ⟨oa, cap, hve⟩ := hv.form
  rw [← HNL.out] at hve
  subst hve
  have p1 := HP.out.below b1
  have c0 := (cell_of_row _ _ 0 _ _ _ p1.cells).trans (show _ = some (.int .u64 (now : Int)) from rfl)
  have fz := frozen_of_row _ _ 0 _ _ p1.cells
  have p2 := p1.time u HU.out
  have m2 := (Mp.of_below (p := p) (b := b) b1).self (j := 0) (v := .int .u64 (u : Int))
  have P2 := Lib.hid p2
  have M2 := Lib.hid m2
  clear hv b1 p1 p2 m2
  go_wp2_with fail
  refine (L1.out _).mono ?_; rintro e w2 ⟨rfl, rfl⟩
  go_wp2_with fail
  refine (S2.out _ P2.out).mono ?_; rintro e w3 ⟨⟨v, rfl, hv⟩, b3⟩
  obtain ⟨oa', cap', hve⟩ := hv.form
  rw [← HNM.out] at hve
  subst hve
  have p3 := P2.out.below b3
  have m3 := M2.out.trans (Mp.of_below b3)
  have P3 := Lib.hid p3
  have M3 := Lib.hid m3
  clear hv b3 p3 m3 c0 fz
  go_wp2_with fail
  go_ret
  refine ⟨?_, P3.out, M3.out⟩
  go_simp
end Go.Proofs.Ytmbidannodelfaa.G
