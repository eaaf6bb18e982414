/- PlainQuota: whatever the quota and the place, the law answers true. No condition. -/
import Derived.Test.YtmbidannodelfaaPh
import Derived.Test.YtmbidannodelfaaGBytes
namespace Go.Proofs.Ytmbidannodelfaa.L
open Go.RowKit Go.Maps Go.Proofs.Ytmbidannodelfaa.G Go.Proofs.Ytmbidannodelfaa.WordPlain Go.Proofs.Ytmbidannodelfaa.Loose
set_option linter.unusedVariables false
set_option linter.unusedSimpArgs false

theorem run_max2Q {P : Program} (ats : Array TypeId) (ty : TypeId) (a b : Int) (W : World) : (Builtin.max_ ats ty #[.int .i64 a, .int .i64 b]).run P W = .ok (.int .i64 (max a b)) W := by
  have h : ∀ x y : Int, (if x < y then y else x) = max x y := by intro x y; split <;> omega
  simp [Builtin.max_, Builtin.max2, List.foldlM_cons, List.foldlM_nil, h]
def c1 (i : Nat) : ByteArray := ⟨#[UInt8.ofNat (97 + i)]⟩
theorem c1_id : ∀ i, i < 21 → idB (c1 i) = true := by decide +kernel
theorem c1_inj : ∀ i, i < 21 → ∀ j, j < 21 → c1 i = c1 j → i = j := by decide +kernel
theorem c1_size (i : Nat) : (c1 i).size = 1 := rfl
theorem _root_.Go.Proofs.Ytmbidannodelfaa.G.IsSes.nodup {now : Nat} {f : ByteArray → Option Ses} {L : List Ses} (h : IsSes now f L) : L.Nodup := h.sorted.imp fun {a b} h e => by subst e; exact List.lt_irrefl _ h
theorem liv_none {now : Nat} {f : ByteArray → Option Ses} {k : ByteArray} (h : f k = none) : liv now f k = false := by unfold liv; rw [h]
theorem liv_of {now : Nat} {f : ByteArray → Option Ses} {k : ByteArray} {s : Ses} (h : f k = some s) (hd : now < s.dl) : liv now f k = true := by unfold liv; rw [h]; exact decide_eq_true hd
theorem len_put {now : Nat} {f : ByteArray → Option Ses} {L M : List Ses} {s : Ses} (h : IsSes now f L) (hl : liv now f s.id = false) (hd : now < s.dl) (h' : IsSes now (upd f s.id (some s)) M) : M.length = L.length + 1 := by
  have no : ∀ x : Ses, x.id = s.id → ¬ (f x.id = some x ∧ now < x.dl) := fun x hx ⟨a, b⟩ => by rw [hx] at a; rw [liv_of a b] at hl; cases hl
  have hp : M.Perm (s :: L) := (List.perm_ext_iff_of_nodup h'.nodup (List.nodup_cons.2 ⟨fun hm => no s rfl ((h.mem s).1 hm), h.nodup⟩)).2 fun x => by
    rw [h'.mem, List.mem_cons, h.mem]
    unfold upd
    by_cases hx : x.id = s.id
    · rw [if_pos hx]
      constructor
      · rintro ⟨a, b⟩; injection a with a; exact Or.inl a.symm
      · rintro (rfl | h3)
        · exact ⟨rfl, hd⟩
        · exact absurd h3 (no x hx)
    · rw [if_neg hx]
      constructor
      · intro h3; exact Or.inr h3
      · rintro (rfl | h3)
        · exact absurd rfl hx
        · exact h3
  exact hp.length_eq
theorem len_del {now : Nat} {f : ByteArray → Option Ses} {L M : List Ses} {k : ByteArray} (h : IsSes now f L) (hl : liv now f k = true) (hid : ∀ s, f k = some s → s.id = k) (h' : IsSes now (upd f k none) M) : M.length + 1 = L.length := by
  obtain ⟨s, hs, hd⟩ := liv_some hl
  have hk := hid s hs
  subst hk
  have hno : ¬ s ∈ M := fun hm => by
    have := ((h'.mem s).1 hm).1
    unfold upd at this; rw [if_pos rfl] at this; cases this
  have hp : L.Perm (s :: M) := (List.perm_ext_iff_of_nodup h.nodup (List.nodup_cons.2 ⟨hno, h'.nodup⟩)).2 fun x => by
    rw [h.mem, List.mem_cons, h'.mem]
    unfold upd
    by_cases hx : x.id = s.id
    · rw [if_pos hx, hx, hs]
      constructor
      · rintro ⟨a, b⟩; injection a with a; exact Or.inl a.symm
      · rintro (rfl | ⟨a, _⟩)
        · exact ⟨rfl, hd⟩
        · cases a
    · rw [if_neg hx]
      constructor
      · intro h3; exact Or.inr h3
      · rintro (rfl | h3)
        · exact absurd rfl hx
        · exact h3
  exact hp.length_eq.symm
theorem cr_valid (k : ByteArray) (hi : idB k = true) : validE ⟨0, k, ⟨#[]⟩, 4621256167635550208⟩ = 0 := by
  unfold validE
  rw [if_neg (show ¬ ((0 : Int) < 0 ∨ (5 : Int) ≤ 0 ∨ idB k = false) from by rw [hi]; decide), if_neg (show ¬ (_ ∧ valB ⟨#[]⟩ = false) from fun h => absurd h.2 (by decide)), if_pos (Or.inl rfl)]
  show ((F.tickE 4621256167635550208 : Nat) : Int) = 0
  decide +kernel
theorem de_valid (k : ByteArray) (hi : idB k = true) : validE ⟨4, k, ⟨#[]⟩, 0⟩ = 0 := by
  unfold validE
  rw [if_neg (show ¬ ((4 : Int) < 0 ∨ (5 : Int) ≤ 4 ∨ idB k = false) from by rw [hi]; decide), if_neg (show ¬ (((4 : Int) = 0 ∨ (4 : Int) = 3) ∧ _) from fun h => absurd h.1 (by decide)), if_neg (show ¬ ((4 : Int) = 0 ∨ (4 : Int) = 2) from by decide)]
theorem cr_ddl (k : ByteArray) : ddl 0 ⟨0, k, ⟨#[]⟩, 4621256167635550208⟩ = 9 := by
  show addV 0 (F.tickV 4621256167635550208) = 9
  decide +kernel
theorem cr_ok (k : ByteArray) (q : Int) (f : ByteArray → Option Ses) (c : Nat) (hi : idB k = true) (hl : liv 0 f k = false) (hq : ¬ q ≤ (c : Int)) : doR 0 q f c ⟨0, k, ⟨#[]⟩, 4621256167635550208⟩ = ⟨0, ⟨#[]⟩, 9⟩ ∧ doF 0 q f c ⟨0, k, ⟨#[]⟩, 4621256167635550208⟩ = upd f k (some ⟨k, ⟨#[]⟩, 9⟩) := by
  have hv := cr_valid k hi
  have hd := cr_ddl k
  have hl' : ¬ liv 0 f k = true := by rw [hl]; decide
  refine ⟨?_, ?_⟩
  · unfold doR
    rw [if_neg (by rw [hv]; simp), if_pos rfl, if_neg hl', if_neg hq, hd]
  · unfold doF
    rw [if_neg (by rw [hv]; simp), if_pos rfl, if_neg hl', if_neg hq, hd]
theorem cr_no (k : ByteArray) (q : Int) (f : ByteArray → Option Ses) (c : Nat) (hi : idB k = true) (hl : liv 0 f k = false) (hq : q ≤ (c : Int)) : doR 0 q f c ⟨0, k, ⟨#[]⟩, 4621256167635550208⟩ = ⟨7, ⟨#[]⟩, 0⟩ ∧ doF 0 q f c ⟨0, k, ⟨#[]⟩, 4621256167635550208⟩ = f := by
  have hv := cr_valid k hi
  have hl' : ¬ liv 0 f k = true := by rw [hl]; decide
  refine ⟨?_, ?_⟩
  · unfold doR
    rw [if_neg (by rw [hv]; simp), if_pos rfl, if_neg hl', if_pos hq]
    rfl
  · unfold doF
    rw [if_neg (by rw [hv]; simp), if_pos rfl, if_neg hl', if_pos hq]
theorem de_ok (k : ByteArray) (q : Int) (f : ByteArray → Option Ses) (c : Nat) (hi : idB k = true) (hl : liv 0 f k = true) : doR 0 q f c ⟨4, k, ⟨#[]⟩, 0⟩ = ⟨0, ⟨#[]⟩, 0⟩ ∧ doF 0 q f c ⟨4, k, ⟨#[]⟩, 0⟩ = upd f k none := by
  have hv := de_valid k hi
  have hl' : ¬ liv 0 f k = false := by rw [hl]; decide
  have k0 : ¬ (4 : Int) = 0 := by decide
  have k1 : ¬ (4 : Int) = 1 := by decide
  have k2 : ¬ (4 : Int) = 2 := by decide
  have k3 : ¬ (4 : Int) = 3 := by decide
  refine ⟨?_, ?_⟩
  · unfold doR
    rw [if_neg (by rw [hv]; simp), if_neg k0, if_neg hl', if_neg k1, if_neg k2]
    rfl
  · unfold doF
    rw [if_neg (by rw [hv]; simp), if_neg k0, if_neg hl', if_neg k1, if_neg k2, if_neg k3]
/-- so many live, under the first ids -/
structure QK (c : Nat) (f : ByteArray → Option Ses) (L : List Ses) : Prop where
  is : IsSes 0 f L
  len : L.length = c
  live : ∀ j, j < c → liv 0 f (c1 j) = true
  only : ∀ k s, f k = some s → ∃ j, j < c ∧ k = c1 j
theorem QK.zero : QK 0 (fun _ => none) [] := ⟨IsSes.nil0 0, rfl, fun j h => absurd h (by omega), fun k s h => by cases h⟩
theorem QK.none {c : Nat} {f : ByteArray → Option Ses} {L : List Ses} (h : QK c f L) (k : ByteArray) (hk : ∀ j, j < c → k ≠ c1 j) : f k = none := by
  cases hf : f k with
  | none => rfl
  | some s => obtain ⟨j, hj, e⟩ := h.only k s hf; exact absurd e (hk j hj)
theorem QK.next {c : Nat} {f : ByteArray → Option Ses} {L M : List Ses} (h : QK c f L) (hc : c < 21) (hM : IsSes 0 (upd f (c1 c) (some ⟨c1 c, ⟨#[]⟩, 9⟩)) M) : QK (c + 1) (upd f (c1 c) (some ⟨c1 c, ⟨#[]⟩, 9⟩)) M := by
  have hn : f (c1 c) = Option.none := h.none _ (fun j hj e => by have := c1_inj c (by omega) j (by omega) e; omega)
  refine ⟨hM, ?_, ?_, ?_⟩
  · rw [← h.len]
    exact len_put (s := ⟨c1 c, ⟨#[]⟩, 9⟩) h.is (liv_none hn) (show (0 : Nat) < 9 from by decide) hM
  · intro j hj
    by_cases hjc : j = c
    · subst hjc
      exact liv_of (s := ⟨c1 j, ⟨#[]⟩, 9⟩) (by unfold upd; exact if_pos rfl) (show (0 : Nat) < 9 from by decide)
    · obtain ⟨s, hs, hd⟩ := liv_some (h.live j (by omega))
      refine liv_of (s := s) ?_ hd
      unfold upd
      rw [if_neg (fun e => hjc (c1_inj j (by omega) c (by omega) e))]
      exact hs
  · intro k s hs
    unfold upd at hs
    by_cases hk : k = c1 c
    · exact ⟨c, by omega, hk⟩
    · rw [if_neg hk] at hs
      obtain ⟨j, hj, e⟩ := h.only k s hs
      exact ⟨j, by omega, e⟩
theorem conv_c1 (W : World) (i y : Nat) (hi : i < 21) (hy : y = 97 + i) : (convert 61 9 (.slice (some ⟨W.heap.size, 0, none⟩) 1 1)).run Try.prog (W.alloc (.cells #[.int .u8 (y : Int)] 5)) = .ok (.string (c1 i)) (W.alloc (.cells #[.int .u8 (y : Int)] 5)) := by
  have h := conv_one0 W (UInt8.ofNat (97 + i))
  have e : (UInt8.ofNat (97 + i)).toNat = y := by rw [hy, UInt8.toNat_ofNat_of_lt']; exact (by show 97 + i < 256; omega)
  rw [e] at h
  exact h
theorem wr97 (i y : Nat) (hi : i < 21) (hy : y = 97 + i) : wrap64 (97 + (i : Int)) = (y : Int) ∧ IntKind.i64.wrap (97 + (i : Int)) = (y : Int) ∧ IntKind.u8.wrap (y : Int) = (y : Int) ∧ (y : Int) % 256 = (y : Int) := by
  rw [show (97 : Int) + (i : Int) = ((97 + i : Nat) : Int) from by omega, ← hy]
  have h := wrap64_of_small y (by omega)
  refine ⟨h.1, h.2, ?_, by omega⟩
  show (y : Int) % 256 = _; omega
theorem inc1 (s : Nat) (h : s < 21) : wrap64 ((s : Int) + 1) = ((s + 1 : Nat) : Int) ∧ IntKind.i64.wrap ((s : Int) + 1) = ((s + 1 : Nat) : Int) := by
  rw [show (s : Int) + 1 = ((s + 1 : Nat) : Int) from by omega]
  exact wrap64_of_small (s + 1) (by omega)
theorem id_small (k : ByteArray) (h : idB k = true) : k.size ≤ 140737488351232 := by
  unfold idB at h
  simp only [Bool.and_eq_true, decide_eq_true_eq] at h
  omega
theorem cr_kind (k : ByteArray) (h : idB k = true) : (Rq.mk 0 k ⟨#[]⟩ 4621256167635550208).Kind := ⟨by show (_ : Int) ≤ 0 ∧ (0 : Int) < _; omega, id_small k h, (by decide : (0 : Nat) ≤ 140737488351232), (by decide : 4621256167635550208 < 18446744073709551616)⟩
theorem de_kind (k : ByteArray) (h : idB k = true) : (Rq.mk 4 k ⟨#[]⟩ 0).Kind := ⟨by show (_ : Int) ≤ 4 ∧ (4 : Int) < _; omega, id_small k h, (by decide : (0 : Nat) ≤ 140737488351232), (by decide : 0 < 18446744073709551616)⟩

set_option maxRecDepth 100000 in
set_option maxHeartbeats 8000000 in
theorem quota_big (q0 q : Int) (n a : Nat) (w : World) (hb : q0 > 20) (tm0 : q0.tmod 20 = q) (hn : (n : Int) = max 0 q) (hq20 : n ≤ 20) (ha : a < 256) :
    Calls Try.prog 6 #[.int .i64 q0, .int .u8 (a : Nat)] w fun e w' => e = .returned (.bool true) ∧ Below w.heap.size w w' := by
  have mx : ∀ W, (Builtin.max_ #[3, 3] 3 #[.int .i64 0, .int .i64 q]).run Try.prog W = .ok (.int .i64 (n : Int)) W := by
    intro W
    rw [run_max2Q, ← hn]
  have HN := Lib.hid hn
  have HQ := Lib.hid hq20
  have HAa := Lib.hid ha
  have HNEW := Lib.hid (New_val w 0 q (by omega))
  clear hn hq20 ha
  go_enter Try.func6, Try.ntmps6
  go_wp2_with fail
  refine (HNEW.out).mono ?_; rintro e w0 ⟨rfl, pl, bl, hz⟩
  obtain ⟨p, hp⟩ : ∃ p, p = w.heap.size + 1 := ⟨_, rfl⟩
  obtain ⟨b, hb⟩ : ∃ b, b = w.heap.size := ⟨_, rfl⟩
  rw [← hp, ← hb] at pl
  rw [← hp]
  have HP := Lib.hid (show w.heap.size ≤ p ∧ w.heap.size ≤ b from by omega)
  have PL0 := Lib.hid pl
  have BL0 := Lib.hid bl
  clear hp hb pl bl hz HNEW
  go_wp2_with fail
  clear mx
  go_loopw [7] (fun i wr => ∃ (s c : Nat) (f : ByteArray → Option Ses) (L : List Ses), s ≤ n + 1 ∧ c = min s n ∧ i = .int .i64 s ∧ PL wr p b s 0 q f ∧ QK c f L ∧ Mp p b w0 wr) (fun i _ => n + 1 - (intOf i).toNat)
  case atStart => exact ⟨0, 0, _, [], by omega, by omega, rfl, PL0.out, QK.zero, Mp.refl _ _ _⟩
  case round =>
    obtain ⟨s, c, f, L, hs, hc, rfl, hpl, hqk, hmp⟩ := hrel
    have PLr := Lib.hid hpl
    have QKr := Lib.hid hqk
    have MPr := Lib.hid hmp
    have HC := Lib.hid hc
    clear hpl hqk hmp hc
    by_cases hle : s ≤ n
    · have hki : (s : Int) ≤ (n : Int) := by omega
      have hs20 : s < 21 := by have := HQ.out; omega
      obtain ⟨y, hy⟩ : ∃ y, y = 97 + s := ⟨_, rfl⟩
      obtain ⟨g1, g2, g3, g5⟩ := wr97 s y hs20 hy
      have cv := conv_c1 wr s y hs20 hy
      have S20 := Lib.hid hs20
      obtain ⟨W1, hW1⟩ : ∃ W, W = wr.alloc (.cells #[.int .u8 (y : Int)] 5) := ⟨_, rfl⟩
      have hB1 := (Below.refl wr.heap.size wr).alloc (Nat.le_refl _) (.cells #[.int .u8 (y : Int)] 5)
      rw [← hW1] at hB1
      have PL1 := Lib.hid (PLr.out.below hB1)
      have MP1 := Lib.hid (MPr.out.trans (Mp.of_below hB1))
      have HW1 := Lib.hid hW1
      obtain ⟨k, hk⟩ : ∃ k, k = c1 s := ⟨_, rfl⟩
      rw [← hk] at cv
      have hid : idB k = true := by rw [hk]; exact c1_id s hs20
      have hlv : liv 0 f k = false := by
        refine liv_none (QKr.out.none k (fun j hj e => ?_))
        have h1 := HC.out
        rw [hk] at e
        have := c1_inj s hs20 j (by omega) e
        omega
      have HK := Lib.hid hk
      have HID := Lib.hid hid
      have HLV := Lib.hid hlv
      clear hy hs20 hW1 hB1 hk hid hlv
      go_wp2_with fail
      rw [← HW1.out]
      clear HW1 cv g1 g2 g3 g5
      by_cases hlt : s < n
      · have hnq : ¬ q ≤ (L.length : Int) := by rw [QKr.out.len]; have := HN.out; have := HC.out; omega
        have dd := Do_is W1 p b s 0 q f _ ⟨0, k, ⟨#[]⟩, 4621256167635550208⟩ ⟨0, ⟨#[]⟩, 9⟩ L PL1.out (cr_kind k HID.out) (by have := HQ.out; omega) QKr.out.is (cr_ok k q f L.length HID.out HLV.out hnq).1 (cr_ok k q f L.length HID.out HLV.out hnq).2
        simp only [Rq.row, Rp.row] at dd
        have h1 : (s : Int) < (n : Int) := by omega
        have h2 : ((s : Int) == (n : Int)) = false := beq_eq_false_iff_ne.2 (by omega)
        have h3 : (s = n) = False := eq_false (by omega)
        refine dd.mono ?_; rintro e v1 ⟨rfl, pl, mp⟩
        clear dd hnq
        obtain ⟨A1q, hA1q⟩ : ∃ A, A = v1.heap.size := ⟨_, rfl⟩
        obtain ⟨x1q, hx1q⟩ : ∃ x, x = v1.alloc (.cells #[.int .i64 0, .string ⟨#[]⟩, .int .u64 9] 41) := ⟨_, rfl⟩
        have ma : Mp p b v1 x1q := by rw [hx1q]; exact Mp.al _ _
        have pl2 : PL x1q p b (s + 1) 0 q (upd f k (some ⟨k, ⟨#[]⟩, 9⟩)) := by rw [hx1q]; exact pl.below ((Below.refl _ _).alloc (Nat.le_refl _) _)
        have rw2 : Rw p b x1q A1q ⟨0, ⟨#[]⟩, 9⟩ := by rw [hx1q, hA1q]; exact Rw.new (y := ⟨0, ⟨#[]⟩, 9⟩) pl.lts.1 pl.lts.2
        have mp2 := mp.trans ma
        have R1q := Lib.hid rw2
        have M1q := Lib.hid mp2
        have PL1q := Lib.hid pl2
        have HX := Lib.hid hx1q
        have HA := Lib.hid hA1q
        clear pl mp ma pl2 rw2 mp2 hx1q hA1q
        obtain ⟨g4, g6⟩ := inc1 s S20.out
        obtain ⟨a1q, b1q, c1q⟩ := R1q.out.cells
        simp only at a1q b1q c1q
        rw [HX.out, HA.out] at a1q b1q c1q
        go_wp2_with fail
        rw [← HX.out]
        clear HX HA a1q b1q c1q g4 g6
        go_roundw
        case rel =>
          obtain ⟨M, hM, _⟩ := PL1q.out.ses
          have hcs : c = s := by have := HC.out; omega
          refine ⟨s + 1, s + 1, _, M, by omega, by omega, by go_num, PL1q.out, ?_, MP1.out.trans M1q.out⟩
          have h5 := QKr.out
          rw [hcs] at h5
          rw [HK.out] at hM ⊢
          exact h5.next S20.out hM
        case measure => simp [intOf]; omega
      · have hsn : s = n := by omega
        have hnq : q ≤ (L.length : Int) := by rw [QKr.out.len]; have := HN.out; have := HC.out; omega
        have dd := Do_is W1 p b s 0 q f _ ⟨0, k, ⟨#[]⟩, 4621256167635550208⟩ ⟨7, ⟨#[]⟩, 0⟩ L PL1.out (cr_kind k HID.out) (by have := HQ.out; omega) QKr.out.is (cr_no k q f L.length HID.out HLV.out hnq).1 (cr_no k q f L.length HID.out HLV.out hnq).2
        simp only [Rq.row, Rp.row] at dd
        have h1 : ¬ (s : Int) < (n : Int) := by omega
        have h2 : ((s : Int) == (n : Int)) = true := beq_iff_eq.2 (by omega)
        have h3 : (s = n) = True := eq_true hsn
        refine dd.mono ?_; rintro e v1 ⟨rfl, pl, mp⟩
        clear dd hnq hsn
        obtain ⟨A1r, hA1r⟩ : ∃ A, A = v1.heap.size := ⟨_, rfl⟩
        obtain ⟨x1r, hx1r⟩ : ∃ x, x = v1.alloc (.cells #[.int .i64 7, .string ⟨#[]⟩, .int .u64 0] 41) := ⟨_, rfl⟩
        have ma : Mp p b v1 x1r := by rw [hx1r]; exact Mp.al _ _
        have pl2 : PL x1r p b (s + 1) 0 q (f) := by rw [hx1r]; exact pl.below ((Below.refl _ _).alloc (Nat.le_refl _) _)
        have rw2 : Rw p b x1r A1r ⟨7, ⟨#[]⟩, 0⟩ := by rw [hx1r, hA1r]; exact Rw.new (y := ⟨7, ⟨#[]⟩, 0⟩) pl.lts.1 pl.lts.2
        have mp2 := mp.trans ma
        have R1r := Lib.hid rw2
        have M1r := Lib.hid mp2
        have PL1r := Lib.hid pl2
        have HX := Lib.hid hx1r
        have HA := Lib.hid hA1r
        clear pl mp ma pl2 rw2 mp2 hx1r hA1r
        obtain ⟨g4, g6⟩ := inc1 s S20.out
        obtain ⟨a1r, b1r, c1r⟩ := R1r.out.cells
        simp only at a1r b1r c1r
        rw [HX.out, HA.out] at a1r b1r c1r
        go_wp2_with fail
        rw [← HX.out]
        clear HX HA a1r b1r c1r g4 g6
        go_roundw
        case rel => exact ⟨s + 1, c, f, L, by omega, by have := HC.out; omega, by go_num, PL1r.out, QKr.out, MP1.out.trans M1r.out⟩
        case measure => simp [intOf]; omega
    · have hki : ¬ (s : Int) ≤ (n : Int) := by omega
      have hcn : c = n := by have := HC.out; omega
      subst hcn
      have HSn := Lib.hid (show s = c + 1 by omega)
      clear hs hle HC
      by_cases hn0 : c = 0
      · have z1 : ((c : Int) == 0) = true := beq_iff_eq.2 (by omega)
        have z2 : (c = 0) = True := eq_true hn0
        have hnil : L = [] := List.length_eq_zero_iff.1 (QKr.out.len.trans hn0)
        have his : IsSes 0 f [] := by have := QKr.out.is; rw [hnil] at this; exact this
        have HIS := Lib.hid his
        clear hnil his hn0
        go_wp2_with fail
        refine (sess_empty wr p b s 0 q f PLr.out (by have := HSn.out; have := HQ.out; omega) HIS.out).mono ?_; rintro e u5 ⟨rfl, c5⟩
        go_wp2_with fail
        refine (fixed_val _).mono ?_; rintro e u6 ⟨rfl, c6⟩
        go_wp2_with fail
        go_ret
        exact ⟨rfl, BL0.out.trans ((MPr.out.trans (Mp.of_below (stepR c5 c6))).below (B := w.heap.size) HP.out.1 HP.out.2 BL0.out.size)⟩
      · have hne : c ≠ 0 := hn0
        clear hn0
        have HNE := Lib.hid hne
        have z1 : ((c : Int) == 0) = false := beq_eq_false_iff_ne.2 (by omega)
        have z2 : (c = 0) = False := eq_false hne
        have z3 : ((c : Int) = 0) = False := eq_false (by omega)
        obtain ⟨j, hj⟩ : ∃ j, j = a % c := ⟨_, rfl⟩
        have hjc : j < c := by rw [hj]; exact Nat.mod_lt _ (by omega)
        have tm : (a : Int).tmod (c : Int) = (j : Int) := by rw [hj]; exact (Int.ofNat_tmod a c).symm
        have aw : IntKind.i64.wrap (a : Int) = (a : Int) := by
          have := HAa.out
          exact (wrap64_of_small a (by omega)).2
        have aw2 : wrap64 (a : Int) = (a : Int) := by
          have := HAa.out
          exact (wrap64_of_small a (by omega)).1
        have AW := Lib.hid aw
        have AW2 := Lib.hid aw2
        clear aw aw2
        have hj20 : j < 21 := by have := HQ.out; omega
        obtain ⟨y, hy⟩ : ∃ y, y = 97 + j := ⟨_, rfl⟩
        obtain ⟨g1, g2, g3, g5⟩ := wr97 j y hj20 hy
        have cv := conv_c1 wr j y hj20 hy
        obtain ⟨W1, hW1⟩ : ∃ W, W = wr.alloc (.cells #[.int .u8 (y : Int)] 5) := ⟨_, rfl⟩
        have hB1 := (Below.refl wr.heap.size wr).alloc (Nat.le_refl _) (.cells #[.int .u8 (y : Int)] 5)
        rw [← hW1] at hB1
        have PL1 := Lib.hid (PLr.out.below hB1)
        have MP1 := Lib.hid (MPr.out.trans (Mp.of_below hB1))
        have HW1 := Lib.hid hW1
        obtain ⟨k, hk⟩ : ∃ k, k = c1 j := ⟨_, rfl⟩
        rw [← hk] at cv
        have hid : idB k = true := by rw [hk]; exact c1_id j hj20
        have hlv : liv 0 f k = true := by rw [hk]; exact QKr.out.live j hjc
        have HID := Lib.hid hid
        have HLV := Lib.hid hlv
        clear hy hj hjc hj20 hW1 hB1 hk hid hlv hne
        have aw := AW.out
        have aw2 := AW2.out
        go_wp2_with fail
        rw [← HW1.out]
        clear HW1 cv tm g1 g2 g3 g5 aw aw2
        have dd := Do_is W1 p b s 0 q f _ ⟨4, k, ⟨#[]⟩, 0⟩ ⟨0, ⟨#[]⟩, 0⟩ L PL1.out (de_kind k HID.out) (by have := HQ.out; have := HSn.out; omega) QKr.out.is (de_ok k q f L.length HID.out HLV.out).1 (de_ok k q f L.length HID.out HLV.out).2
        simp only [Rq.row, Rp.row] at dd
        refine dd.mono ?_; rintro e v2 ⟨rfl, pl, mp⟩
        clear dd
        obtain ⟨L2, hL2, _⟩ := pl.ses
        have hl2 : L2.length + 1 = c := (len_del QKr.out.is HLV.out (fun s hs => (PLr.out.ids k s hs).1) hL2).trans QKr.out.len
        have HL2 := Lib.hid hL2
        have HLL2 := Lib.hid hl2
        clear hL2 hl2
        obtain ⟨A2, hA2⟩ : ∃ A, A = v2.heap.size := ⟨_, rfl⟩
        obtain ⟨x2, hx2⟩ : ∃ x, x = v2.alloc (.cells #[.int .i64 0, .string ⟨#[]⟩, .int .u64 0] 41) := ⟨_, rfl⟩
        have ma : Mp p b v2 x2 := by rw [hx2]; exact Mp.al _ _
        have pl2 : PL x2 p b (s + 1) 0 q (upd f k none) := by rw [hx2]; exact pl.below ((Below.refl _ _).alloc (Nat.le_refl _) _)
        have rw2 : Rw p b x2 A2 ⟨0, ⟨#[]⟩, 0⟩ := by rw [hx2, hA2]; exact Rw.new (y := ⟨0, ⟨#[]⟩, 0⟩) pl.lts.1 pl.lts.2
        have mp2 := mp.trans ma
        have R2 := Lib.hid rw2
        have M2 := Lib.hid mp2
        have PL2 := Lib.hid pl2
        have HX := Lib.hid hx2
        have HA := Lib.hid hA2
        clear pl mp ma pl2 rw2 mp2 hx2 hA2
        go_wp2_with fail
        rw [← HX.out, ← HA.out]
        clear HX HA
        obtain ⟨f2, hf2⟩ : ∃ g, g = upd f k none := ⟨_, rfl⟩
        have zz : f2 ⟨#[122, 122]⟩ = none := by
          rw [hf2]; unfold upd
          split
          · rfl
          · exact QKr.out.none _ (fun j hj e => by have := congrArg ByteArray.size e; rw [c1_size] at this; exact absurd this (by decide))
        have zzz : f2 ⟨#[122, 122, 122]⟩ = none := by
          rw [hf2]; unfold upd
          split
          · rfl
          · exact QKr.out.none _ (fun j hj e => by have := congrArg ByteArray.size e; rw [c1_size] at this; exact absurd this (by decide))
        rw [← hf2] at PL2 HL2
        have Z2 := Lib.hid zz
        have Z3 := Lib.hid zzz
        have I2 : Hid (idB ⟨#[122, 122]⟩ = true) := Lib.hid (by decide +kernel)
        have I3 : Hid (idB ⟨#[122, 122, 122]⟩ = true) := Lib.hid (by decide +kernel)
        clear hf2 zz zzz
        go_wp2_with fail
        have hnq : ¬ q ≤ (L2.length : Int) := by have := HN.out; have := HLL2.out; have := HNE.out; omega
        have dd := Do_is x2 p b (s + 1) 0 q f2 _ ⟨0, ⟨#[122, 122]⟩, ⟨#[]⟩, 4621256167635550208⟩ ⟨0, ⟨#[]⟩, 9⟩ L2 PL2.out (cr_kind _ I2.out) (by have := HQ.out; have := HSn.out; omega) HL2.out (cr_ok _ q f2 L2.length I2.out (liv_none Z2.out) hnq).1 (cr_ok _ q f2 L2.length I2.out (liv_none Z2.out) hnq).2
        simp only [Rq.row, Rp.row] at dd
        refine dd.mono ?_; rintro e v3 ⟨rfl, pl, mp⟩
        clear dd hnq
        obtain ⟨L3, hL3, _⟩ := pl.ses
        have hl3 : L3.length = c := (len_put (s := ⟨⟨#[122, 122]⟩, ⟨#[]⟩, 9⟩) HL2.out (liv_none Z2.out) (show (0 : Nat) < 9 from by decide) hL3).trans HLL2.out
        have HL3 := Lib.hid hL3
        have HLL3 := Lib.hid hl3
        clear hL3 hl3
        obtain ⟨A3, hA3⟩ : ∃ A, A = v3.heap.size := ⟨_, rfl⟩
        obtain ⟨x3, hx3⟩ : ∃ x, x = v3.alloc (.cells #[.int .i64 0, .string ⟨#[]⟩, .int .u64 9] 41) := ⟨_, rfl⟩
        have ma : Mp p b v3 x3 := by rw [hx3]; exact Mp.al _ _
        have pl2 : PL x3 p b (s + 1 + 1) 0 q (upd f2 ⟨#[122, 122]⟩ (some ⟨⟨#[122, 122]⟩, ⟨#[]⟩, 9⟩)) := by rw [hx3]; exact pl.below ((Below.refl _ _).alloc (Nat.le_refl _) _)
        have rw2 : Rw p b x3 A3 ⟨0, ⟨#[]⟩, 9⟩ := by rw [hx3, hA3]; exact Rw.new (y := ⟨0, ⟨#[]⟩, 9⟩) pl.lts.1 pl.lts.2
        have mp2 := mp.trans ma
        have R2_3 := Lib.hid (R2.out.mp mp2)
        clear R2
        have R2 := R2_3
        clear R2_3
        have R3 := Lib.hid rw2
        have M3 := Lib.hid mp2
        have PL3 := Lib.hid pl2
        have HX := Lib.hid hx3
        have HA := Lib.hid hA3
        clear pl mp ma pl2 rw2 mp2 hx3 hA3
        go_wp2_with fail
        rw [← HX.out, ← HA.out]
        clear HX HA
        obtain ⟨f3, hf3⟩ : ∃ g, g = upd f2 ⟨#[122, 122]⟩ (some ⟨⟨#[122, 122]⟩, ⟨#[]⟩, 9⟩) := ⟨_, rfl⟩
        have zz4 : f3 ⟨#[122, 122, 122]⟩ = none := by
          rw [hf3]; unfold upd
          rw [if_neg (by decide)]
          exact Z3.out
        rw [← hf3] at PL3 HL3
        have Z4 := Lib.hid zz4
        clear hf3 zz4
        go_wp2_with fail
        have hnq : q ≤ (L3.length : Int) := by have := HN.out; have := HLL3.out; have := HNE.out; omega
        have dd := Do_is x3 p b (s + 1 + 1) 0 q f3 _ ⟨0, ⟨#[122, 122, 122]⟩, ⟨#[]⟩, 4621256167635550208⟩ ⟨7, ⟨#[]⟩, 0⟩ L3 PL3.out (cr_kind _ I3.out) (by have := HQ.out; have := HSn.out; omega) HL3.out (cr_no _ q f3 L3.length I3.out (liv_none Z4.out) hnq).1 (cr_no _ q f3 L3.length I3.out (liv_none Z4.out) hnq).2
        simp only [Rq.row, Rp.row] at dd
        refine dd.mono ?_; rintro e v4 ⟨rfl, pl, mp⟩
        clear dd hnq
        obtain ⟨A4, hA4⟩ : ∃ A, A = v4.heap.size := ⟨_, rfl⟩
        obtain ⟨x4, hx4⟩ : ∃ x, x = v4.alloc (.cells #[.int .i64 7, .string ⟨#[]⟩, .int .u64 0] 41) := ⟨_, rfl⟩
        have ma : Mp p b v4 x4 := by rw [hx4]; exact Mp.al _ _
        have pl2 : PL x4 p b (s + 1 + 1 + 1) 0 q (f3) := by rw [hx4]; exact pl.below ((Below.refl _ _).alloc (Nat.le_refl _) _)
        have rw2 : Rw p b x4 A4 ⟨7, ⟨#[]⟩, 0⟩ := by rw [hx4, hA4]; exact Rw.new (y := ⟨7, ⟨#[]⟩, 0⟩) pl.lts.1 pl.lts.2
        have mp2 := mp.trans ma
        have R2_4 := Lib.hid (R2.out.mp mp2)
        clear R2
        have R2 := R2_4
        clear R2_4
        have R3_4 := Lib.hid (R3.out.mp mp2)
        clear R3
        have R3 := R3_4
        clear R3_4
        have R4 := Lib.hid rw2
        have M4 := Lib.hid mp2
        have PL4 := Lib.hid pl2
        have HX := Lib.hid hx4
        have HA := Lib.hid hA4
        clear pl mp ma pl2 rw2 mp2 hx4 hA4
        obtain ⟨a2, b2, c2⟩ := R2.out.cells
        simp only at a2 b2 c2
        rw [HX.out] at a2 b2 c2
        obtain ⟨a3, b3, c3⟩ := R3.out.cells
        simp only at a3 b3 c3
        rw [HX.out] at a3 b3 c3
        obtain ⟨a4, b4, c4⟩ := R4.out.cells
        simp only at a4 b4 c4
        rw [HX.out, HA.out] at a4 b4 c4
        go_wp2_with fail
        rw [← HX.out]
        clear HX HA
        refine (sess_is x4 p b (s + 1 + 1 + 1) 0 q f3 L3 PL4.out (by have := HQ.out; have := HSn.out; omega) HL3.out).mono ?_; rintro e u5 ⟨⟨s5, rfl, l5⟩, c5⟩
        obtain ⟨o5, p5, hs5⟩ := l5.form
        subst hs5
        rw [HLL3.out]
        clear l5
        go_wp2_with fail
        refine (fixed_val _).mono ?_; rintro e u6 ⟨rfl, c6⟩
        go_wp2_with fail
        go_ret
        exact ⟨rfl, BL0.out.trans ((((((MP1.out.trans M2.out).trans M3.out).trans M4.out).trans (Mp.of_below (stepR c5 c6)))).below (B := w.heap.size) HP.out.1 HP.out.2 BL0.out.size)⟩

set_option maxRecDepth 100000 in
set_option maxHeartbeats 8000000 in
theorem quota_small (q : Int) (n a : Nat) (w : World) (hb : ¬ q > 20) (hn : (n : Int) = max 0 q) (hq20 : n ≤ 20) (ha : a < 256) :
    Calls Try.prog 6 #[.int .i64 q, .int .u8 (a : Nat)] w fun e w' => e = .returned (.bool true) ∧ Below w.heap.size w w' := by
  have mx : ∀ W, (Builtin.max_ #[3, 3] 3 #[.int .i64 0, .int .i64 q]).run Try.prog W = .ok (.int .i64 (n : Int)) W := by
    intro W
    rw [run_max2Q, ← hn]
  have HN := Lib.hid hn
  have HQ := Lib.hid hq20
  have HAa := Lib.hid ha
  have HNEW := Lib.hid (New_val w 0 q (by omega))
  clear hn hq20 ha
  go_enter Try.func6, Try.ntmps6
  go_wp2_with fail
  refine (HNEW.out).mono ?_; rintro e w0 ⟨rfl, pl, bl, hz⟩
  obtain ⟨p, hp⟩ : ∃ p, p = w.heap.size + 1 := ⟨_, rfl⟩
  obtain ⟨b, hb⟩ : ∃ b, b = w.heap.size := ⟨_, rfl⟩
  rw [← hp, ← hb] at pl
  rw [← hp]
  have HP := Lib.hid (show w.heap.size ≤ p ∧ w.heap.size ≤ b from by omega)
  have PL0 := Lib.hid pl
  have BL0 := Lib.hid bl
  clear hp hb pl bl hz HNEW
  go_wp2_with fail
  clear mx
  go_loopw [7] (fun i wr => ∃ (s c : Nat) (f : ByteArray → Option Ses) (L : List Ses), s ≤ n + 1 ∧ c = min s n ∧ i = .int .i64 s ∧ PL wr p b s 0 q f ∧ QK c f L ∧ Mp p b w0 wr) (fun i _ => n + 1 - (intOf i).toNat)
  case atStart => exact ⟨0, 0, _, [], by omega, by omega, rfl, PL0.out, QK.zero, Mp.refl _ _ _⟩
  case round =>
    obtain ⟨s, c, f, L, hs, hc, rfl, hpl, hqk, hmp⟩ := hrel
    have PLr := Lib.hid hpl
    have QKr := Lib.hid hqk
    have MPr := Lib.hid hmp
    have HC := Lib.hid hc
    clear hpl hqk hmp hc
    by_cases hle : s ≤ n
    · have hki : (s : Int) ≤ (n : Int) := by omega
      have hs20 : s < 21 := by have := HQ.out; omega
      obtain ⟨y, hy⟩ : ∃ y, y = 97 + s := ⟨_, rfl⟩
      obtain ⟨g1, g2, g3, g5⟩ := wr97 s y hs20 hy
      have cv := conv_c1 wr s y hs20 hy
      have S20 := Lib.hid hs20
      obtain ⟨W1, hW1⟩ : ∃ W, W = wr.alloc (.cells #[.int .u8 (y : Int)] 5) := ⟨_, rfl⟩
      have hB1 := (Below.refl wr.heap.size wr).alloc (Nat.le_refl _) (.cells #[.int .u8 (y : Int)] 5)
      rw [← hW1] at hB1
      have PL1 := Lib.hid (PLr.out.below hB1)
      have MP1 := Lib.hid (MPr.out.trans (Mp.of_below hB1))
      have HW1 := Lib.hid hW1
      obtain ⟨k, hk⟩ : ∃ k, k = c1 s := ⟨_, rfl⟩
      rw [← hk] at cv
      have hid : idB k = true := by rw [hk]; exact c1_id s hs20
      have hlv : liv 0 f k = false := by
        refine liv_none (QKr.out.none k (fun j hj e => ?_))
        have h1 := HC.out
        rw [hk] at e
        have := c1_inj s hs20 j (by omega) e
        omega
      have HK := Lib.hid hk
      have HID := Lib.hid hid
      have HLV := Lib.hid hlv
      clear hy hs20 hW1 hB1 hk hid hlv
      go_wp2_with fail
      rw [← HW1.out]
      clear HW1 cv g1 g2 g3 g5
      by_cases hlt : s < n
      · have hnq : ¬ q ≤ (L.length : Int) := by rw [QKr.out.len]; have := HN.out; have := HC.out; omega
        have dd := Do_is W1 p b s 0 q f _ ⟨0, k, ⟨#[]⟩, 4621256167635550208⟩ ⟨0, ⟨#[]⟩, 9⟩ L PL1.out (cr_kind k HID.out) (by have := HQ.out; omega) QKr.out.is (cr_ok k q f L.length HID.out HLV.out hnq).1 (cr_ok k q f L.length HID.out HLV.out hnq).2
        simp only [Rq.row, Rp.row] at dd
        have h1 : (s : Int) < (n : Int) := by omega
        have h2 : ((s : Int) == (n : Int)) = false := beq_eq_false_iff_ne.2 (by omega)
        have h3 : (s = n) = False := eq_false (by omega)
        refine dd.mono ?_; rintro e v1 ⟨rfl, pl, mp⟩
        clear dd hnq
        obtain ⟨A1q, hA1q⟩ : ∃ A, A = v1.heap.size := ⟨_, rfl⟩
        obtain ⟨x1q, hx1q⟩ : ∃ x, x = v1.alloc (.cells #[.int .i64 0, .string ⟨#[]⟩, .int .u64 9] 41) := ⟨_, rfl⟩
        have ma : Mp p b v1 x1q := by rw [hx1q]; exact Mp.al _ _
        have pl2 : PL x1q p b (s + 1) 0 q (upd f k (some ⟨k, ⟨#[]⟩, 9⟩)) := by rw [hx1q]; exact pl.below ((Below.refl _ _).alloc (Nat.le_refl _) _)
        have rw2 : Rw p b x1q A1q ⟨0, ⟨#[]⟩, 9⟩ := by rw [hx1q, hA1q]; exact Rw.new (y := ⟨0, ⟨#[]⟩, 9⟩) pl.lts.1 pl.lts.2
        have mp2 := mp.trans ma
        have R1q := Lib.hid rw2
        have M1q := Lib.hid mp2
        have PL1q := Lib.hid pl2
        have HX := Lib.hid hx1q
        have HA := Lib.hid hA1q
        clear pl mp ma pl2 rw2 mp2 hx1q hA1q
        obtain ⟨g4, g6⟩ := inc1 s S20.out
        obtain ⟨a1q, b1q, c1q⟩ := R1q.out.cells
        simp only at a1q b1q c1q
        rw [HX.out, HA.out] at a1q b1q c1q
        go_wp2_with fail
        rw [← HX.out]
        clear HX HA a1q b1q c1q g4 g6
        go_roundw
        case rel =>
          obtain ⟨M, hM, _⟩ := PL1q.out.ses
          have hcs : c = s := by have := HC.out; omega
          refine ⟨s + 1, s + 1, _, M, by omega, by omega, by go_num, PL1q.out, ?_, MP1.out.trans M1q.out⟩
          have h5 := QKr.out
          rw [hcs] at h5
          rw [HK.out] at hM ⊢
          exact h5.next S20.out hM
        case measure => simp [intOf]; omega
      · have hsn : s = n := by omega
        have hnq : q ≤ (L.length : Int) := by rw [QKr.out.len]; have := HN.out; have := HC.out; omega
        have dd := Do_is W1 p b s 0 q f _ ⟨0, k, ⟨#[]⟩, 4621256167635550208⟩ ⟨7, ⟨#[]⟩, 0⟩ L PL1.out (cr_kind k HID.out) (by have := HQ.out; omega) QKr.out.is (cr_no k q f L.length HID.out HLV.out hnq).1 (cr_no k q f L.length HID.out HLV.out hnq).2
        simp only [Rq.row, Rp.row] at dd
        have h1 : ¬ (s : Int) < (n : Int) := by omega
        have h2 : ((s : Int) == (n : Int)) = true := beq_iff_eq.2 (by omega)
        have h3 : (s = n) = True := eq_true hsn
        refine dd.mono ?_; rintro e v1 ⟨rfl, pl, mp⟩
        clear dd hnq hsn
        obtain ⟨A1r, hA1r⟩ : ∃ A, A = v1.heap.size := ⟨_, rfl⟩
        obtain ⟨x1r, hx1r⟩ : ∃ x, x = v1.alloc (.cells #[.int .i64 7, .string ⟨#[]⟩, .int .u64 0] 41) := ⟨_, rfl⟩
        have ma : Mp p b v1 x1r := by rw [hx1r]; exact Mp.al _ _
        have pl2 : PL x1r p b (s + 1) 0 q (f) := by rw [hx1r]; exact pl.below ((Below.refl _ _).alloc (Nat.le_refl _) _)
        have rw2 : Rw p b x1r A1r ⟨7, ⟨#[]⟩, 0⟩ := by rw [hx1r, hA1r]; exact Rw.new (y := ⟨7, ⟨#[]⟩, 0⟩) pl.lts.1 pl.lts.2
        have mp2 := mp.trans ma
        have R1r := Lib.hid rw2
        have M1r := Lib.hid mp2
        have PL1r := Lib.hid pl2
        have HX := Lib.hid hx1r
        have HA := Lib.hid hA1r
        clear pl mp ma pl2 rw2 mp2 hx1r hA1r
        obtain ⟨g4, g6⟩ := inc1 s S20.out
        obtain ⟨a1r, b1r, c1r⟩ := R1r.out.cells
        simp only at a1r b1r c1r
        rw [HX.out, HA.out] at a1r b1r c1r
        go_wp2_with fail
        rw [← HX.out]
        clear HX HA a1r b1r c1r g4 g6
        go_roundw
        case rel => exact ⟨s + 1, c, f, L, by omega, by have := HC.out; omega, by go_num, PL1r.out, QKr.out, MP1.out.trans M1r.out⟩
        case measure => simp [intOf]; omega
    · have hki : ¬ (s : Int) ≤ (n : Int) := by omega
      have hcn : c = n := by have := HC.out; omega
      subst hcn
      have HSn := Lib.hid (show s = c + 1 by omega)
      clear hs hle HC
      by_cases hn0 : c = 0
      · have z1 : ((c : Int) == 0) = true := beq_iff_eq.2 (by omega)
        have z2 : (c = 0) = True := eq_true hn0
        have hnil : L = [] := List.length_eq_zero_iff.1 (QKr.out.len.trans hn0)
        have his : IsSes 0 f [] := by have := QKr.out.is; rw [hnil] at this; exact this
        have HIS := Lib.hid his
        clear hnil his hn0
        go_wp2_with fail
        refine (sess_empty wr p b s 0 q f PLr.out (by have := HSn.out; have := HQ.out; omega) HIS.out).mono ?_; rintro e u5 ⟨rfl, c5⟩
        go_wp2_with fail
        refine (fixed_val _).mono ?_; rintro e u6 ⟨rfl, c6⟩
        go_wp2_with fail
        go_ret
        exact ⟨rfl, BL0.out.trans ((MPr.out.trans (Mp.of_below (stepR c5 c6))).below (B := w.heap.size) HP.out.1 HP.out.2 BL0.out.size)⟩
      · have hne : c ≠ 0 := hn0
        clear hn0
        have HNE := Lib.hid hne
        have z1 : ((c : Int) == 0) = false := beq_eq_false_iff_ne.2 (by omega)
        have z2 : (c = 0) = False := eq_false hne
        have z3 : ((c : Int) = 0) = False := eq_false (by omega)
        obtain ⟨j, hj⟩ : ∃ j, j = a % c := ⟨_, rfl⟩
        have hjc : j < c := by rw [hj]; exact Nat.mod_lt _ (by omega)
        have tm : (a : Int).tmod (c : Int) = (j : Int) := by rw [hj]; exact (Int.ofNat_tmod a c).symm
        have aw : IntKind.i64.wrap (a : Int) = (a : Int) := by
          have := HAa.out
          exact (wrap64_of_small a (by omega)).2
        have aw2 : wrap64 (a : Int) = (a : Int) := by
          have := HAa.out
          exact (wrap64_of_small a (by omega)).1
        have AW := Lib.hid aw
        have AW2 := Lib.hid aw2
        clear aw aw2
        have hj20 : j < 21 := by have := HQ.out; omega
        obtain ⟨y, hy⟩ : ∃ y, y = 97 + j := ⟨_, rfl⟩
        obtain ⟨g1, g2, g3, g5⟩ := wr97 j y hj20 hy
        have cv := conv_c1 wr j y hj20 hy
        obtain ⟨W1, hW1⟩ : ∃ W, W = wr.alloc (.cells #[.int .u8 (y : Int)] 5) := ⟨_, rfl⟩
        have hB1 := (Below.refl wr.heap.size wr).alloc (Nat.le_refl _) (.cells #[.int .u8 (y : Int)] 5)
        rw [← hW1] at hB1
        have PL1 := Lib.hid (PLr.out.below hB1)
        have MP1 := Lib.hid (MPr.out.trans (Mp.of_below hB1))
        have HW1 := Lib.hid hW1
        obtain ⟨k, hk⟩ : ∃ k, k = c1 j := ⟨_, rfl⟩
        rw [← hk] at cv
        have hid : idB k = true := by rw [hk]; exact c1_id j hj20
        have hlv : liv 0 f k = true := by rw [hk]; exact QKr.out.live j hjc
        have HID := Lib.hid hid
        have HLV := Lib.hid hlv
        clear hy hj hjc hj20 hW1 hB1 hk hid hlv hne
        have aw := AW.out
        have aw2 := AW2.out
        go_wp2_with fail
        rw [← HW1.out]
        clear HW1 cv tm g1 g2 g3 g5 aw aw2
        have dd := Do_is W1 p b s 0 q f _ ⟨4, k, ⟨#[]⟩, 0⟩ ⟨0, ⟨#[]⟩, 0⟩ L PL1.out (de_kind k HID.out) (by have := HQ.out; have := HSn.out; omega) QKr.out.is (de_ok k q f L.length HID.out HLV.out).1 (de_ok k q f L.length HID.out HLV.out).2
        simp only [Rq.row, Rp.row] at dd
        refine dd.mono ?_; rintro e v2 ⟨rfl, pl, mp⟩
        clear dd
        obtain ⟨L2, hL2, _⟩ := pl.ses
        have hl2 : L2.length + 1 = c := (len_del QKr.out.is HLV.out (fun s hs => (PLr.out.ids k s hs).1) hL2).trans QKr.out.len
        have HL2 := Lib.hid hL2
        have HLL2 := Lib.hid hl2
        clear hL2 hl2
        obtain ⟨A2, hA2⟩ : ∃ A, A = v2.heap.size := ⟨_, rfl⟩
        obtain ⟨x2, hx2⟩ : ∃ x, x = v2.alloc (.cells #[.int .i64 0, .string ⟨#[]⟩, .int .u64 0] 41) := ⟨_, rfl⟩
        have ma : Mp p b v2 x2 := by rw [hx2]; exact Mp.al _ _
        have pl2 : PL x2 p b (s + 1) 0 q (upd f k none) := by rw [hx2]; exact pl.below ((Below.refl _ _).alloc (Nat.le_refl _) _)
        have rw2 : Rw p b x2 A2 ⟨0, ⟨#[]⟩, 0⟩ := by rw [hx2, hA2]; exact Rw.new (y := ⟨0, ⟨#[]⟩, 0⟩) pl.lts.1 pl.lts.2
        have mp2 := mp.trans ma
        have R2 := Lib.hid rw2
        have M2 := Lib.hid mp2
        have PL2 := Lib.hid pl2
        have HX := Lib.hid hx2
        have HA := Lib.hid hA2
        clear pl mp ma pl2 rw2 mp2 hx2 hA2
        go_wp2_with fail
        rw [← HX.out, ← HA.out]
        clear HX HA
        obtain ⟨f2, hf2⟩ : ∃ g, g = upd f k none := ⟨_, rfl⟩
        have zz : f2 ⟨#[122, 122]⟩ = none := by
          rw [hf2]; unfold upd
          split
          · rfl
          · exact QKr.out.none _ (fun j hj e => by have := congrArg ByteArray.size e; rw [c1_size] at this; exact absurd this (by decide))
        have zzz : f2 ⟨#[122, 122, 122]⟩ = none := by
          rw [hf2]; unfold upd
          split
          · rfl
          · exact QKr.out.none _ (fun j hj e => by have := congrArg ByteArray.size e; rw [c1_size] at this; exact absurd this (by decide))
        rw [← hf2] at PL2 HL2
        have Z2 := Lib.hid zz
        have Z3 := Lib.hid zzz
        have I2 : Hid (idB ⟨#[122, 122]⟩ = true) := Lib.hid (by decide +kernel)
        have I3 : Hid (idB ⟨#[122, 122, 122]⟩ = true) := Lib.hid (by decide +kernel)
        clear hf2 zz zzz
        go_wp2_with fail
        have hnq : ¬ q ≤ (L2.length : Int) := by have := HN.out; have := HLL2.out; have := HNE.out; omega
        have dd := Do_is x2 p b (s + 1) 0 q f2 _ ⟨0, ⟨#[122, 122]⟩, ⟨#[]⟩, 4621256167635550208⟩ ⟨0, ⟨#[]⟩, 9⟩ L2 PL2.out (cr_kind _ I2.out) (by have := HQ.out; have := HSn.out; omega) HL2.out (cr_ok _ q f2 L2.length I2.out (liv_none Z2.out) hnq).1 (cr_ok _ q f2 L2.length I2.out (liv_none Z2.out) hnq).2
        simp only [Rq.row, Rp.row] at dd
        refine dd.mono ?_; rintro e v3 ⟨rfl, pl, mp⟩
        clear dd hnq
        obtain ⟨L3, hL3, _⟩ := pl.ses
        have hl3 : L3.length = c := (len_put (s := ⟨⟨#[122, 122]⟩, ⟨#[]⟩, 9⟩) HL2.out (liv_none Z2.out) (show (0 : Nat) < 9 from by decide) hL3).trans HLL2.out
        have HL3 := Lib.hid hL3
        have HLL3 := Lib.hid hl3
        clear hL3 hl3
        obtain ⟨A3, hA3⟩ : ∃ A, A = v3.heap.size := ⟨_, rfl⟩
        obtain ⟨x3, hx3⟩ : ∃ x, x = v3.alloc (.cells #[.int .i64 0, .string ⟨#[]⟩, .int .u64 9] 41) := ⟨_, rfl⟩
        have ma : Mp p b v3 x3 := by rw [hx3]; exact Mp.al _ _
        have pl2 : PL x3 p b (s + 1 + 1) 0 q (upd f2 ⟨#[122, 122]⟩ (some ⟨⟨#[122, 122]⟩, ⟨#[]⟩, 9⟩)) := by rw [hx3]; exact pl.below ((Below.refl _ _).alloc (Nat.le_refl _) _)
        have rw2 : Rw p b x3 A3 ⟨0, ⟨#[]⟩, 9⟩ := by rw [hx3, hA3]; exact Rw.new (y := ⟨0, ⟨#[]⟩, 9⟩) pl.lts.1 pl.lts.2
        have mp2 := mp.trans ma
        have R2_3 := Lib.hid (R2.out.mp mp2)
        clear R2
        have R2 := R2_3
        clear R2_3
        have R3 := Lib.hid rw2
        have M3 := Lib.hid mp2
        have PL3 := Lib.hid pl2
        have HX := Lib.hid hx3
        have HA := Lib.hid hA3
        clear pl mp ma pl2 rw2 mp2 hx3 hA3
        go_wp2_with fail
        rw [← HX.out, ← HA.out]
        clear HX HA
        obtain ⟨f3, hf3⟩ : ∃ g, g = upd f2 ⟨#[122, 122]⟩ (some ⟨⟨#[122, 122]⟩, ⟨#[]⟩, 9⟩) := ⟨_, rfl⟩
        have zz4 : f3 ⟨#[122, 122, 122]⟩ = none := by
          rw [hf3]; unfold upd
          rw [if_neg (by decide)]
          exact Z3.out
        rw [← hf3] at PL3 HL3
        have Z4 := Lib.hid zz4
        clear hf3 zz4
        go_wp2_with fail
        have hnq : q ≤ (L3.length : Int) := by have := HN.out; have := HLL3.out; have := HNE.out; omega
        have dd := Do_is x3 p b (s + 1 + 1) 0 q f3 _ ⟨0, ⟨#[122, 122, 122]⟩, ⟨#[]⟩, 4621256167635550208⟩ ⟨7, ⟨#[]⟩, 0⟩ L3 PL3.out (cr_kind _ I3.out) (by have := HQ.out; have := HSn.out; omega) HL3.out (cr_no _ q f3 L3.length I3.out (liv_none Z4.out) hnq).1 (cr_no _ q f3 L3.length I3.out (liv_none Z4.out) hnq).2
        simp only [Rq.row, Rp.row] at dd
        refine dd.mono ?_; rintro e v4 ⟨rfl, pl, mp⟩
        clear dd hnq
        obtain ⟨A4, hA4⟩ : ∃ A, A = v4.heap.size := ⟨_, rfl⟩
        obtain ⟨x4, hx4⟩ : ∃ x, x = v4.alloc (.cells #[.int .i64 7, .string ⟨#[]⟩, .int .u64 0] 41) := ⟨_, rfl⟩
        have ma : Mp p b v4 x4 := by rw [hx4]; exact Mp.al _ _
        have pl2 : PL x4 p b (s + 1 + 1 + 1) 0 q (f3) := by rw [hx4]; exact pl.below ((Below.refl _ _).alloc (Nat.le_refl _) _)
        have rw2 : Rw p b x4 A4 ⟨7, ⟨#[]⟩, 0⟩ := by rw [hx4, hA4]; exact Rw.new (y := ⟨7, ⟨#[]⟩, 0⟩) pl.lts.1 pl.lts.2
        have mp2 := mp.trans ma
        have R2_4 := Lib.hid (R2.out.mp mp2)
        clear R2
        have R2 := R2_4
        clear R2_4
        have R3_4 := Lib.hid (R3.out.mp mp2)
        clear R3
        have R3 := R3_4
        clear R3_4
        have R4 := Lib.hid rw2
        have M4 := Lib.hid mp2
        have PL4 := Lib.hid pl2
        have HX := Lib.hid hx4
        have HA := Lib.hid hA4
        clear pl mp ma pl2 rw2 mp2 hx4 hA4
        obtain ⟨a2, b2, c2⟩ := R2.out.cells
        simp only at a2 b2 c2
        rw [HX.out] at a2 b2 c2
        obtain ⟨a3, b3, c3⟩ := R3.out.cells
        simp only at a3 b3 c3
        rw [HX.out] at a3 b3 c3
        obtain ⟨a4, b4, c4⟩ := R4.out.cells
        simp only at a4 b4 c4
        rw [HX.out, HA.out] at a4 b4 c4
        go_wp2_with fail
        rw [← HX.out]
        clear HX HA
        refine (sess_is x4 p b (s + 1 + 1 + 1) 0 q f3 L3 PL4.out (by have := HQ.out; have := HSn.out; omega) HL3.out).mono ?_; rintro e u5 ⟨⟨s5, rfl, l5⟩, c5⟩
        obtain ⟨o5, p5, hs5⟩ := l5.form
        subst hs5
        rw [HLL3.out]
        clear l5
        go_wp2_with fail
        refine (fixed_val _).mono ?_; rintro e u6 ⟨rfl, c6⟩
        go_wp2_with fail
        go_ret
        exact ⟨rfl, BL0.out.trans ((((((MP1.out.trans M2.out).trans M3.out).trans M4.out).trans (Mp.of_below (stepR c5 c6)))).below (B := w.heap.size) HP.out.1 HP.out.2 BL0.out.size)⟩

theorem PlainQuota_walk (a0 a1 : Int) (w : World) (w0 : (Lit.int .i64 a0).wf = true) (w1 : (Lit.int .u8 a1).wf = true) :
    Calls Try.prog 6 #[.int .i64 a0, .int .u8 a1] w fun e w' => e = .returned (.bool true) ∧ Below w.heap.size w w' := by
  obtain ⟨a, rfl, ha⟩ := u8_wf' _ w1
  by_cases h : a0 > 20
  · have h1 : 0 ≤ a0.tmod 20 ∧ a0.tmod 20 < 20 := ⟨Int.tmod_nonneg 20 (by omega), Int.tmod_lt_of_pos a0 (by omega)⟩
    exact quota_big a0 _ (max 0 (a0.tmod 20)).toNat a w h rfl (by omega) (by omega) ha
  · exact quota_small a0 (max 0 a0).toNat a w h (by omega) (by omega) ha
end Go.Proofs.Ytmbidannodelfaa.L
