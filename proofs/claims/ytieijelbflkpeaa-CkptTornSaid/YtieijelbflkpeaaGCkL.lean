/- Laws of a checkpoint's bytes, in plain Lean: what is encoded is decoded; where the fields stand; a torn sector. -/
import Derived.Test.YtieijelbflkpeaaGCkD2
namespace Go.Proofs.Ytieijelbflkpeaa.G
open Go.RowKit Go.Proofs.Ytieijelbflkpeaa.CrcPlain Go.Proofs.Ytieijelbflkpeaa.WordPlain
set_option linter.unusedVariables false
set_option linter.unusedSimpArgs false

theorem mid_list {α : Type} (a b c : List α) (i j : Nat) (h : a.length = i) (hb : b.length = j) : ((a ++ (b ++ c)).drop i).take j = b := by
  subst h; subst hb; simp
theorem flat_get : ∀ (l : List (Int × Int)) (i : Nat) (h : i < l.length), (l.flatMap fun p => [u8i p.1, u8i p.2])[2 * i]? = some (u8i l[i].1) ∧ (l.flatMap fun p => [u8i p.1, u8i p.2])[2 * i + 1]? = some (u8i l[i].2)
  | [], i, h => by simp at h
  | a :: l, 0, h => by simp
  | a :: l, i + 1, h => by
    have ih := flat_get l i (by simpa using h)
    rw [List.flatMap_cons]
    constructor
    · rw [show 2 * (i + 1) = 2 * i + 2 from by omega]; simpa using ih.1
    · rw [show 2 * (i + 1) + 1 = 2 * i + 1 + 2 from by omega]; simpa using ih.2
theorem pairs_whole (c : Ck) (h : c.lens.length = c.order.length) : c.pairs c.order.length = (c.order.zip c.lens).flatMap fun p => [u8i p.1, u8i p.2] := by
  unfold Ck.pairs
  rw [List.take_of_length_le (by rw [List.length_zip]; omega)]
def Ck.rest (c : Ck) : List UInt8 := List.replicate (116 - (29 + 2 * c.order.length)) 0 ++ (wl c.crc.toNat 4 ++ wl c.gen 8)
theorem enc_form (c : Ck) : c.enc = wl c.gen 8 ++ (wl c.ep 4 ++ (wl c.lsn 8 ++ (wl c.ver 8 ++ (u8i c.order.length :: (c.pairs c.order.length ++ c.rest))))) := by
  simp [Ck.enc, Ck.body, Ck.hdr, Ck.rest]
theorem enc_gen2 (c : Ck) (h : c.lens.length = c.order.length) (h16 : c.order.length ≤ 16) : c.enc.drop 120 = wl c.gen 8 := by
  unfold Ck.enc
  have e : (c.body ++ wl c.crc.toNat 4).length = 120 := by rw [List.length_append, c.body_length h h16, wl_length]
  rw [← e, List.drop_left]
theorem enc_gen1 (c : Ck) : c.enc.take 8 = wl c.gen 8 := by
  rw [enc_form]
  have := wl_length c.gen 8
  exact List.take_left' this
theorem bAt_mk (l : List UInt8) (i : Nat) : bAt ⟨l.toArray⟩ i = ((l.getD i 0).toNat : Int) := rfl
theorem enc_many (c : Ck) (h16 : c.order.length ≤ 16) : bAt ⟨c.enc.toArray⟩ 28 = c.order.length := by
  rw [bAt_mk, enc_form]
  rw [show wl c.gen 8 ++ (wl c.ep 4 ++ (wl c.lsn 8 ++ (wl c.ver 8 ++ (u8i c.order.length :: (c.pairs c.order.length ++ c.rest))))) = (wl c.gen 8 ++ wl c.ep 4 ++ wl c.lsn 8 ++ wl c.ver 8) ++ (u8i c.order.length :: (c.pairs c.order.length ++ c.rest)) from by simp]
  rw [List.getD_eq_getElem?_getD, List.getElem?_append_right (by simp [wl_length])]
  simp only [List.length_append, wl_length]
  exact u8i_int _ (by omega) (by omega)
theorem enc_pair (c : Ck) (h : c.Right) (i : Nat) (hi : i < c.order.length) : bAt ⟨c.enc.toArray⟩ (29 + 2 * i) = c.order[i] ∧ bAt ⟨c.enc.toArray⟩ (29 + 2 * i + 1) = c.lens[i]'(by have := h.2.2.2.2.1; omega) := by
  obtain ⟨_, _, _, h16, hlen, hor, hlr, _⟩ := h
  have hz : i < (c.order.zip c.lens).length := by rw [List.length_zip]; omega
  obtain ⟨g1, g2⟩ := flat_get (c.order.zip c.lens) i hz
  have ho := hor _ (List.getElem_mem hi)
  have hl := hlr _ (List.getElem_mem (show i < c.lens.length by omega))
  rw [List.getElem_zip] at g1 g2
  have e : c.enc = (wl c.gen 8 ++ wl c.ep 4 ++ wl c.lsn 8 ++ wl c.ver 8 ++ [u8i c.order.length]) ++ (c.pairs c.order.length ++ c.rest) := by rw [enc_form]; simp
  have el : (wl c.gen 8 ++ wl c.ep 4 ++ wl c.lsn 8 ++ wl c.ver 8 ++ [u8i c.order.length]).length = 29 := by simp [wl_length]
  have pl := c.pairs_length hlen c.order.length (Nat.le_refl _)
  constructor
  · rw [bAt_mk, e, List.getD_eq_getElem?_getD, List.getElem?_append_right (by rw [el]; omega), el, List.getElem?_append_left (by rw [pl]; omega), pairs_whole c hlen, show 29 + 2 * i - 29 = 2 * i from by omega, g1]
    exact u8i_int _ (by omega) (by omega)
  · rw [bAt_mk, e, List.getD_eq_getElem?_getD, List.getElem?_append_right (by rw [el]; omega), el, List.getElem?_append_left (by rw [pl]; omega), pairs_whole c hlen, show 29 + 2 * i + 1 - 29 = 2 * i + 1 from by omega, g2]
    exact u8i_int _ (by omega) (by omega)
theorem wgl_wl_lt (n k : Nat) (h : n < 256 ^ k) : wgl (wl n k) = n := by rw [wgl_wl, Nat.mod_eq_of_lt h]
theorem wget_list (s : ByteArray) (l : List UInt8) (h : s.data.toList.take 8 = l) : wget s = wgl l := by unfold wget; rw [h]
theorem extract_list (l : List UInt8) (a b : Nat) : ((⟨l.toArray⟩ : ByteArray).extract a b).data.toList = (l.drop a).take (b - a) := by
  simp [ByteArray.data_extract, List.extract_eq_take_drop]

/-- where the fields stand -/
theorem enc_fields (c : Ck) (hk : c.Kind) :
    wget ⟨c.enc.toArray⟩ = c.gen ∧ wget ((⟨c.enc.toArray⟩ : ByteArray).extract 8 12) = c.ep ∧ wget ((⟨c.enc.toArray⟩ : ByteArray).extract 12 20) = c.lsn ∧ wget ((⟨c.enc.toArray⟩ : ByteArray).extract 20 28) = c.ver := by
  refine ⟨?_, ?_, ?_, ?_⟩
  · rw [wget_list _ _ (enc_gen1 c), wgl_wl_lt _ _ hk.gen]
  · have e : (((⟨c.enc.toArray⟩ : ByteArray).extract 8 12).data.toList).take 8 = wl c.ep 4 := by
      rw [extract_list, enc_form, mid_list _ _ _ 8 (12 - 8) (wl_length _ _) (wl_length _ _), List.take_of_length_le (by rw [wl_length]; omega)]
    rw [wget_list _ _ e, wgl_wl_lt _ _ hk.ep]
  · have e : (((⟨c.enc.toArray⟩ : ByteArray).extract 12 20).data.toList).take 8 = wl c.lsn 8 := by
      rw [extract_list, enc_form, ← List.append_assoc, mid_list _ _ _ 12 (20 - 12) (by simp [wl_length]) (by rw [wl_length]), List.take_of_length_le (by rw [wl_length]; omega)]
    rw [wget_list _ _ e, wgl_wl_lt _ _ hk.lsn]
  · have e : (((⟨c.enc.toArray⟩ : ByteArray).extract 20 28).data.toList).take 8 = wl c.ver 8 := by
      rw [extract_list, enc_form, ← List.append_assoc, ← List.append_assoc, mid_list _ _ _ 20 (28 - 20) (by simp [wl_length]) (by rw [wl_length]), List.take_of_length_le (by rw [wl_length]; omega)]
    rw [wget_list _ _ e, wgl_wl_lt _ _ hk.ver]

theorem raw_enc (c : Ck) (hk : c.Kind) (h : c.Right) : rawCk ⟨c.enc.toArray⟩ = c := by
  obtain ⟨f1, f2, f3, f4⟩ := enc_fields c hk
  have hlen := h.2.2.2.2.1
  have hn : (bAt ⟨c.enc.toArray⟩ 28).toNat = c.order.length := by rw [enc_many c h.2.2.2.1]; simp
  have o1 : ordOf ⟨c.enc.toArray⟩ c.order.length = c.order := by
    refine List.ext_getElem (ordOf_length _ _) (fun i h1 h2 => ?_)
    simp only [ordOf, List.getElem_map, List.getElem_range]
    exact (enc_pair c h i h2).1
  have o2 : lenOf ⟨c.enc.toArray⟩ c.order.length = c.lens := by
    refine List.ext_getElem (by rw [lenOf_length]; omega) (fun i h1 h2 => ?_)
    simp only [lenOf, List.getElem_map, List.getElem_range]
    exact (enc_pair c h i (by omega)).2
  unfold rawCk
  rw [f1, f2, f3, f4, hn, o1, o2]

/-- what is encoded is decoded -/
theorem out_right (c : Ck) (h : c.Right) : c.out = ⟨c.enc.toArray⟩ := if_pos h
theorem out_size (c : Ck) (h : c.Right) : c.out.size = 128 := by
  rw [out_right c h]
  show c.enc.length = 128
  exact c.enc_length h.2.2.2.2.1 h.2.2.2.1
theorem dec_out (c : Ck) (hk : c.Kind) (h : c.Right) : decOk c.out ∧ decC c.out = c := by
  have hraw := raw_enc c hk h
  have hok : decOk c.out := by
    refine ⟨out_size c h, ?_, ?_, ?_⟩
    · rw [out_right c h, enc_many c h.2.2.2.1]; have := h.2.2.2.1; omega
    · rw [out_right c h, hraw]; exact h
    · rw [out_right c h, hraw]
  refine ⟨hok, ?_⟩
  unfold decC
  rw [if_pos hok, out_right c h, hraw]
theorem out_inj (c d : Ck) (hk : c.Kind) (hd : d.Kind) (h : c.Right) (h2 : d.Right) : c.out = d.out ↔ c = d := by
  constructor
  · intro e
    rw [← (dec_out c hk h).2, e, (dec_out d hd h2).2]
  · rintro rfl; rfl
/-- what is decoded is encoded so -/
theorem decC_ok (s : ByteArray) (h : decOk s) : (decC s).Right ∧ (decC s).Kind ∧ (decC s).out = s := by
  have e : decC s = rawCk s := if_pos h
  rw [e]
  refine ⟨h.2.2.1, rawCk_kind s h.2.1, ?_⟩
  rw [out_right _ h.2.2.1]
  exact ByteArray.ext (Array.ext' h.2.2.2)
theorem noCk_kind : noCk.Kind := ⟨by decide, by decide, by decide, by decide, (by intro x hx; cases hx), (by intro x hx; cases hx), by decide, by decide⟩
theorem decC_kind (s : ByteArray) : (decC s).Kind := by
  by_cases h : decOk s
  · exact (decC_ok s h).2.1
  · have e : decC s = noCk := if_neg h
    rw [e]; exact noCk_kind

/-! a torn sector -/
def zeros128 : ByteArray := ⟨(List.replicate 128 0).toArray⟩
/-- the number stands at both ends -/
theorem ok_ends (s : ByteArray) (h : decOk s) : (decC s).gen = wgl (s.data.toList.take 8) ∧ (decC s).gen = wgl (s.data.toList.drop 120) := by
  obtain ⟨hr, hk, ho⟩ := decC_ok s h
  have e : s.data.toList = (decC s).enc := by
    rw [out_right _ hr] at ho
    exact (congrArg (fun b : ByteArray => b.data.toList) ho).symm
  rw [e, enc_gen1, enc_gen2 _ hr.2.2.2.2.1 hr.2.2.2.1, wgl_wl_lt _ _ hk.gen]
  exact ⟨rfl, rfl⟩

theorem torn (s : ByteArray) (c : Ck) (g : Nat) (hs : s.size = 128) (hsg : wgl (s.data.toList.drop 120) < g) (hk : c.Kind) (h : c.Right) (k : Nat) (hk128 : k ≤ 128) (m : ByteArray) (hm : m.data.toList = c.out.data.toList.take k ++ s.data.toList.drop k) (hne : m ≠ c.out) (hok : decOk m) : (decC m).gen < g := by
  obtain ⟨e1, e2⟩ := ok_ends m hok
  have hsl : s.data.toList.length = 128 := hs
  have hul : c.out.data.toList.length = 128 := out_size c h
  by_cases hk120 : k ≤ 120
  · rw [e2, hm, List.drop_append, List.drop_of_length_le (by rw [List.length_take]; omega), List.nil_append, List.length_take, hul, List.drop_drop, show k + (120 - min k 128) = 120 from by omega]
    exact hsg
  · exfalso
    apply hne
    obtain ⟨hr, hk', ho⟩ := decC_ok m hok
    have eu : c.out.data.toList = c.enc := by rw [out_right c h]
    have em : m.data.toList = (decC m).enc := by
      rw [out_right _ hr] at ho
      exact (congrArg (fun b : ByteArray => b.data.toList) ho).symm
    have hg : (decC m).gen = c.gen := by
      have := ok_ends c.out (dec_out c hk h).1
      rw [e1, hm, List.take_append_of_le_length (by rw [List.length_take]; omega), List.take_take, show min 8 k = 8 from by omega, ← this.1, (dec_out c hk h).2]
    have h120 : m.data.toList.take 120 = c.out.data.toList.take 120 := by
      rw [hm, List.take_append_of_le_length (by rw [List.length_take]; omega), List.take_take, show min 120 k = 120 from by omega]
    have hd : m.data.toList.drop 120 = c.out.data.toList.drop 120 := by
      rw [em, enc_gen2 _ hr.2.2.2.2.1 hr.2.2.2.1, eu, enc_gen2 _ h.2.2.2.2.1 h.2.2.2.1, hg]
    apply ByteArray.ext
    apply Array.ext'
    rw [← List.take_append_drop 120 m.data.toList, ← List.take_append_drop 120 c.out.data.toList, h120, hd]
theorem torn_old (a : Ck) (g : Nat) (hk : a.Kind) (h : a.Right) (hg : a.gen < g) : wgl (a.out.data.toList.drop 120) < g := by
  have := ok_ends a.out (dec_out a hk h).1
  rw [← this.2, (dec_out a hk h).2]
  exact hg
theorem torn_zero (g : Nat) (hg : 0 < g) : wgl (zeros128.data.toList.drop 120) < g := by
  have e : wgl (zeros128.data.toList.drop 120) = 0 := by decide
  rw [e]; exact hg
end Go.Proofs.Ytieijelbflkpeaa.G
