/- The document's Encode. -/
import Derived.Test.YtjkiofgllmjkcaaTc
import Derived.Test.YtjkiofgllmjkcaaTa
import Derived.Test.YtjkiofgllmjkcaaS6
namespace Go.Proofs.Ytjkiofgllmjkcaa.G
open Go.RowKit Go.Proofs.Ytjkiofgllmjkcaa.WordPlain
set_option linter.unusedVariables false
set_option linter.unusedSimpArgs false

theorem Sb.at_addr {w : World} {oa : Option Addr} {m cap : Nat} {l : List Bool} (h : Sb w (.slice oa m cap) l) : ∀ j (h : j < l.length), ∃ b off, oa = some ⟨b, off, none⟩ ∧ w.cell? ⟨b, off + j, none⟩ = some (.bool l[j]) := by
  intro j hj
  rcases h with ⟨rfl, _⟩ | ⟨_, b, off, cap', he, _, hx⟩
  · exact absurd hj (Nat.not_lt_zero _)
  · injection he with h1 h2 h3
    exact ⟨b, off, h1, hx j hj⟩
theorem rbytes_val (a : Ac) (va : Value) (w : World) (hr : a.Right) (ha : a.Kind) (hs : Sb w va a.keep) :
    Calls Try.prog 25 #[.agg (a.row va)] w fun e w' => e = .returned (.string a.bytes) ∧ Below w.heap.size w w' := by
  have hf := hr.2
  have hn := ha.n
  have ht := ha.ttl
  clear ha hr
  obtain ⟨oa, cap, rfl⟩ := hs.form
  obtain ⟨k, rk, i, v, t, p, n, l, to, pl⟩ := a
  unfold Ac.fits at hf
  simp only at hf hn ht hs
  unfold Ac.row
  simp only
  by_cases k0 : k = 0
  · subst k0
    simp only [if_true] at hf
    obtain ⟨r, rfl⟩ := Int.eq_ofNat_of_zero_le hf.1.1
    obtain ⟨q, rfl⟩ := Int.eq_ofNat_of_zero_le hf.2.2.2.1
    exact rb_0 w r q to pl i v t n l.length cap oa (by omega) (by omega) (by omega) (by omega) ht _ (Lib.hid (by unfold Ac.bytes; simp only [if_true]; rfl))
  simp only [if_neg k0] at hf
  by_cases k1 : k = 1
  · subst k1; exact rb_1 w rk p to pl i v t n l.length cap oa hn _ (Lib.hid rfl)
  by_cases k2 : k = 2
  · subst k2; exact rb_2 w rk p to pl i v t n l.length cap oa hn _ (Lib.hid rfl)
  simp only [if_neg k2] at hf
  by_cases k4 : k = 4
  · subst k4; exact rb_4 w rk p to pl i v t n l.length cap oa hn _ (Lib.hid rfl)
  simp only [if_neg k4] at hf
  by_cases k5 : k = 5
  · subst k5
    simp only [if_true] at hf
    obtain ⟨r, rfl⟩ := Int.eq_ofNat_of_zero_le hf.2.1.1
    obtain ⟨q, rfl⟩ := Int.eq_ofNat_of_zero_le hf.2.2.1
    exact rb_5 w r q rk p i v t n l.length cap oa l rfl (by omega) (by omega) (by omega) hn hs.at_addr _ (Lib.hid (by unfold Ac.bytes; simp only [show ((5 : Int) = 0) = False from eq_false (by decide), show ((5 : Int) = 1) = False from eq_false (by decide), show ((5 : Int) = 2) = False from eq_false (by decide), show ((5 : Int) = 4) = False from eq_false (by decide), if_false, if_true]; rfl))
  simp only [if_neg k5] at hf
  have k3 : k = 3 := by rcases hf with h | h; exact absurd h k1; exact h
  subst k3
  exact rb_3 w rk p to pl i v t n l.length cap oa _ (Lib.hid rfl)

set_option maxRecDepth 100000 in
set_option maxHeartbeats 2000000 in
theorem rEncode_some (l : List Ac) (n b off cap : Nat) (w : World) (hn : n = l.length) (hnb : n ≤ 140737488351232) (hk : ∀ a ∈ l, a.Kind) (hx : ∀ i (h : i < l.length), ∃ vk, Sb w vk l[i].keep ∧ AtC w b (off + i * 10) l[i] vk) (zs : ByteArray) (ze : Int) (hs : Hid (zs = encV l)) (he : Hid (ze = encE l)) :
    Calls Try.prog 11 #[.slice (some ⟨b, off, none⟩) n cap] w fun e w' => e = .returned (.tuple #[.string zs, .int .i64 ze]) ∧ Below w.heap.size w w' := by
  have HX := Lib.hid hx
  have HN := Lib.hid hn
  have HK := Lib.hid hk
  clear hx hn hk
  go_enter Try.func11, Try.ntmps11
  go_wp2_with fail
  go_loopw [4, 5] (fun s i wr => ∃ k : Nat, k ≤ n ∧ i = .int .i64 k ∧ s = .string (encB (l.take k)) ∧ allR (l.take k) ∧ Below w.heap.size w wr) (fun _ i _ => n - (intOf i).toNat)
  case atStart => exact ⟨0, by omega, rfl, rfl, by intro a ha; simp at ha, Below.refl _ _⟩
  case round =>
    obtain ⟨q, hq, rfl, rfl, hall, hbl⟩ := hrel
    have HA := Lib.hid hall
    have HBL := Lib.hid hbl
    clear hall hbl
    by_cases hlt : q < n
    · have hql : q < l.length := by have := HN.out; omega
      have hkn : (q : Int) < (n : Int) := by omega
      obtain ⟨vk, sv, cs⟩ := HX.out q hql
      have sv := sv.below HBL.out (Nat.le_refl _)
      have cs := cs.below HBL.out (Nat.le_refl _)
      have hkk := HK.out l[q] (List.getElem_mem hql)
      obtain ⟨a, ha⟩ : ∃ a, a = l[q] := ⟨_, rfl⟩
      rw [← ha] at sv cs hkk
      have HAE := Lib.hid ha
      clear ha
      have cs2 := fun W (h : Below wr.heap.size wr W) => cs.below h (Nat.le_refl _)
      obtain ⟨oa, cap', rfl⟩ := sv.form
      have hR := fun W => rRight_val a oa cap' W
      have CS2 := Lib.hid cs2
      obtain ⟨c0, c1, c2, c3, c4, c5, c6, c7, c8, c9⟩ := cs
      have SV := Lib.hid sv
      have KK := Lib.hid hkk
      have HR := Lib.hid hR
      clear sv hkk hR cs2
      have sf := store_floatS
      by_cases hr : a.Right
      · have HRT := Lib.hid hr
        rw [decide_eq_true hr] at HR
        have hsz := encB_small _ HA.out
        have hbz := bytes_small a hr
        rw [List.length_take] at hsz
        have q1 : (9223372036854775807 < (encB (l.take q)).size + a.bytes.size) = False := eq_false (by omega)
        clear hr hsz hbz
        go_wp2_with fail
        refine (HR.out _).mono ?_; rintro e w1 ⟨rfl, hb1⟩
        have g1 := hb1
        have hB := rbytes_val a (.slice oa a.keep.length cap') w1 HRT.out KK.out (SV.out.below g1 (Nat.le_refl _))
        obtain ⟨d0, d1, d2, d3, d4, d5, d6, d7, d8, d9⟩ := CS2.out w1 g1
        have HB := Lib.hid hB
        have G1 := Lib.hid g1
        clear hB g1 hb1 c0 c1 c2 c3 c4 c5 c6 c7 c8 c9
        go_wp2_with fail
        refine (HB.out).mono ?_; rintro e w2 ⟨rfl, hb2⟩
        go_wp2_with fail
        go_roundw
        case rel =>
          refine ⟨q + 1, by omega, by go_num, ?_, allR_take_next l q hql HA.out (by rw [← HAE.out]; exact HRT.out), below_step HBL.out (below_step G1.out hb2)⟩
          rw [List.take_succ_eq_append_getElem hql, encB_snoc, ← HAE.out]
        case measure => simp [intOf]; omega
      · rw [decide_eq_false hr] at HR
        have hna : ¬ allR l := fun h => hr (by rw [HAE.out]; exact h _ (List.getElem_mem hql))
        have e1 : zs = ⟨#[]⟩ := by rw [hs.out]; unfold encV; rw [if_neg hna]
        have e2 : ze = 5 := by rw [he.out]; unfold encE; rw [if_neg hna]
        subst e1 e2
        clear hna hr
        go_wp2_with fail
        refine (HR.out _).mono ?_; rintro e w1 ⟨rfl, hb1⟩
        go_wp2_with fail
        go_ret2
        exact ⟨rfl, below_step HBL.out hb1⟩
    · obtain rfl : q = n := by omega
      have hall := HA.out
      have e0 : l.take q = l := List.take_of_length_le (by have := HN.out; omega)
      rw [e0] at hall
      rw [e0]
      have e1 : zs = encB l := by rw [hs.out]; unfold encV; rw [if_pos hall]
      have e2 : ze = 0 := by rw [he.out]; unfold encE; rw [if_pos hall]
      subst e1 e2
      clear hall e0
      go_wp2_with fail
      go_ret2
      exact ⟨rfl, HBL.out⟩

set_option maxRecDepth 100000 in
theorem rEncode_none (oa : Option Addr) (cap : Nat) (w : World) :
    Calls Try.prog 11 #[.slice oa 0 cap] w fun e w' => e = .returned (.tuple #[.string ⟨#[]⟩, .int .i64 0]) ∧ Below w.heap.size w w' := by
  go_enter Try.func11, Try.ntmps11
  go_wp2_with fail
  go_loopw [4, 5] (fun s i wr => i = .int .i64 0 ∧ s = .string ⟨#[]⟩ ∧ Below w.heap.size w wr) (fun _ i _ => 0)
  case atStart => exact ⟨rfl, rfl, Below.refl _ _⟩
  case round =>
    obtain ⟨rfl, rfl, hbl⟩ := hrel
    go_wp2_with fail
    go_ret2
    exact ⟨rfl, hbl⟩
theorem rEncode_val (l : List Ac) (v : Value) (w : World) (hl : l.length ≤ 140737488351232) (hk : ∀ a ∈ l, a.Kind) (h : SA w v l) :
    Calls Try.prog 11 #[v] w fun e w' => e = .returned (.tuple #[.string (encV l), .int .i64 (encE l)]) ∧ Below w.heap.size w w' := by
  rcases h with ⟨rfl, oa, cap, rfl⟩ | ⟨_, b, off, cap, rfl, _, hx⟩
  · have e : allR [] := fun a ha => by cases ha
    unfold encV encE
    rw [if_pos e, if_pos e]
    exact rEncode_none oa cap w
  · exact rEncode_some l l.length b off cap w rfl hl hk hx _ _ (Lib.hid rfl) (Lib.hid rfl)
end Go.Proofs.Ytjkiofgllmjkcaa.G
