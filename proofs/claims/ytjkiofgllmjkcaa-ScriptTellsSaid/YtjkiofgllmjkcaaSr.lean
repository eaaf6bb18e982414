/- Bytes without their last ones; how many bytes each act has: plain laws. -/
import Derived.Test.YtjkiofgllmjkcaaSq
namespace Go.Proofs.Ytjkiofgllmjkcaa.G
open Go.RowKit Go.Proofs.Ytjkiofgllmjkcaa.WordPlain
set_option linter.unusedVariables false
set_option linter.unusedSimpArgs false

/-- more bytes behind change no reading that ends well, and none that fails for its form -/
def Ext {α : Type} (f : List UInt8 → Except Int (α × List UInt8)) : Prop :=
  ∀ p q, (∀ x R, f p = .ok (x, R) → f (p ++ q) = .ok (x, R ++ q)) ∧ (∀ e, f p = .error e → e = 6 ∨ (e = 5 ∧ f (p ++ q) = .error 5))
def bnd {α β : Type} (f : List UInt8 → Except Int (α × List UInt8)) (g : α → List UInt8 → Except Int (β × List UInt8)) (L : List UInt8) : Except Int (β × List UInt8) :=
  match f L with
  | .error e => .error e
  | .ok (x, M) => g x M
theorem ext_bnd {α β : Type} {f : List UInt8 → Except Int (α × List UInt8)} {g : α → List UInt8 → Except Int (β × List UInt8)} (hf : Ext f) (hg : ∀ x, Ext (g x)) : Ext (bnd f g) := by
  intro p q
  obtain ⟨h1, h2⟩ := hf p q
  cases h : f p with
  | error e =>
    have E : bnd f g p = .error e := by unfold bnd; rw [h]
    refine ⟨fun x R he => (by rw [E] at he; cases he), fun e' he => ?_⟩
    rw [E] at he
    injection he with he
    subst he
    rcases h2 _ h with h6 | ⟨h5, h6⟩
    · exact Or.inl h6
    · exact Or.inr ⟨h5, by unfold bnd; rw [h6]⟩
  | ok y =>
    obtain ⟨x, M⟩ := y
    have E : bnd f g p = g x M := by unfold bnd; rw [h]
    have E2 : bnd f g (p ++ q) = g x (M ++ q) := by unfold bnd; rw [h1 _ _ h]
    rw [E, E2]
    exact hg x M q
theorem Ext.bd {α β : Type} {f : List UInt8 → Except Int (α × List UInt8)} {g : α → List UInt8 → Except Int (β × List UInt8)} (hf : Ext f) (hg : ∀ x, Ext (g x)) : Ext (bnd f g) := ext_bnd hf hg
theorem ext_ret {α : Type} (x : α) : Ext (fun L => .ok (x, L)) := by
  intro p q
  refine ⟨fun y R h => ?_, fun e h => (by cases h)⟩
  injection h with h
  injection h with h1 h2
  rw [← h1, ← h2]
theorem ext_bad {α : Type} : Ext (fun _ => (.error 5 : Except Int (α × List UInt8))) := by
  intro p q
  refine ⟨fun y R h => (by cases h), fun e h => ?_⟩
  injection h with h
  exact Or.inr ⟨h.symm, rfl⟩
theorem ext_ite {α : Type} (c : Prop) [Decidable c] {f g : List UInt8 → Except Int (α × List UInt8)} (hf : Ext f) (hg : Ext g) : Ext (fun L => if c then f L else g L) := by
  by_cases h : c
  · simp only [if_pos h]; exact hf
  · simp only [if_neg h]; exact hg
theorem ext_num (n : Nat) : Ext (rdNum n) := by
  intro p q
  unfold rdNum
  by_cases h : n ≤ p.length
  · rw [if_pos h, if_pos (by rw [List.length_append]; omega)]
    refine ⟨fun x R he => ?_, fun e he => (by cases he)⟩
    injection he with he
    injection he with h1 h2
    rw [← h1, ← h2, List.take_append_of_le_length h, List.drop_append_of_le_length h]
  · rw [if_neg h]
    refine ⟨fun x R he => (by cases he), fun e he => ?_⟩
    injection he with he
    exact Or.inl he.symm
theorem ext_take (n : Nat) : Ext (rdTake n) := by
  intro p q
  unfold rdTake
  by_cases h : n ≤ p.length
  · rw [if_pos h, if_pos (by rw [List.length_append]; omega)]
    refine ⟨fun x R he => ?_, fun e he => (by cases he)⟩
    injection he with he
    injection he with h1 h2
    rw [← h1, ← h2, List.take_append_of_le_length h, List.drop_append_of_le_length h]
  · rw [if_neg h]
    refine ⟨fun x R he => (by cases he), fun e he => ?_⟩
    injection he with he
    exact Or.inl he.symm
theorem ext_text : Ext rdText := by
  have e : rdText = bnd (rdNum 1) fun n => bnd (rdTake n) fun s L => .ok (⟨s.toArray⟩, L) := by kernel_rfl
  rw [e]
  exact (ext_num 1).bd fun n => (ext_take n).bd fun s => ext_ret _
theorem ext_bools : ∀ c, Ext (rdBools c)
  | 0 => by
    have e : rdBools 0 = fun L => .ok ([], L) := by funext L; rw [rdBools]
    rw [e]; exact ext_ret _
  | c + 1 => by
    have e : rdBools (c + 1) = bnd (rdNum 1) fun k L => if 1 < k then .error 5 else bnd (rdBools c) (fun r R => .ok ((k == 1) :: r, R)) L := by
      funext L; rw [rdBools]; kernel_rfl
    rw [e]
    exact (ext_num 1).bd fun k => ext_ite _ ext_bad ((ext_bools c).bd fun r => ext_ret _)
theorem ext_ask : Ext rdAsk := by
  have e : rdAsk = bnd (rdNum 1) fun rk => bnd rdText fun id => bnd rdText fun va => bnd (rdNum 8) fun ttl => bnd (rdNum 1) fun pick L => .ok ({ Ac.zero with rk := rk, id := id, va := va, ttl := ttl, pick := pick }, L) := by kernel_rfl
  rw [e]
  exact (ext_num 1).bd fun _ => ext_text.bd fun _ => ext_text.bd fun _ => (ext_num 8).bd fun _ => (ext_num 1).bd fun _ => ext_ret _
theorem ext_n (k : Int) (b : Nat) : Ext (rdN k b) := by
  have e : rdN k b = bnd (rdNum b) fun n L => .ok ({ Ac.zero with kind := k, n := n }, L) := by kernel_rfl
  rw [e]
  exact (ext_num b).bd fun _ => ext_ret _
theorem ext_crash : Ext rdCrash := by
  have e : rdCrash = bnd (rdNum 1) fun c => bnd (rdBools c) fun keep => bnd (rdNum 2) fun torn => bnd (rdNum 1) fun pl L => if 128 < pl then .error 5 else bnd (rdNum 8) (fun n L => .ok ({ Ac.zero with kind := 5, n := n, keep := keep, torn := torn, pl := pl }, L)) L := by kernel_rfl
  rw [e]
  exact (ext_num 1).bd fun c => (ext_bools c).bd fun _ => (ext_num 2).bd fun _ => (ext_num 1).bd fun pl => ext_ite _ ext_bad ((ext_num 8).bd fun _ => ext_ret _)
theorem ext_one : Ext rdOne := by
  have e : rdOne = bnd (rdNum 1) fun k M => if 6 ≤ k then .error 5 else if k = 0 then rdAsk M else if k = 1 then rdN 1 8 M else if k = 2 then rdN 2 1 M else if k = 4 then rdN 4 2 M else if k = 5 then rdCrash M else .ok ({ Ac.zero with kind := 3 }, M) := by kernel_rfl
  rw [e]
  exact (ext_num 1).bd fun k => ext_ite _ ext_bad (ext_ite _ ext_ask (ext_ite _ (ext_n 1 8) (ext_ite _ (ext_n 2 1) (ext_ite _ (ext_n 4 2) (ext_ite _ ext_crash (ext_ret _))))))

/-- a reading fails for its form, or for too few bytes -/
theorem one_err {L : List UInt8} {e : Int} (h : rdOne L = .error e) : e = 5 ∨ e = 6 := by
  rcases (ext_one L []).2 e h with h | ⟨h, _⟩
  · exact Or.inr h
  · exact Or.inl h
theorem all_err : ∀ (f : Nat) (L : List UInt8) (e : Int), rdAll f L = .error e → e = 5 ∨ e = 6
  | f, [], e, h => by
    have e : rdAll f [] = .ok [] := by cases f <;> rfl
    rw [e] at h; cases h
  | 0, c :: L, e, h => by
    simp only [rdAll] at h
    injection h with h
    exact Or.inr h.symm
  | f + 1, c :: L, e, h => by
    simp only [rdAll] at h
    cases h1 : rdOne (c :: L) with
    | error x => rw [h1] at h; injection h with h; subst h; exact one_err h1
    | ok y =>
      obtain ⟨a, R⟩ := y
      rw [h1] at h
      simp only at h
      cases h2 : rdAll f R with
      | error x => rw [h2] at h; injection h with h; subst h; exact all_err f R _ h2
      | ok r => rw [h2] at h; cases h
theorem decX_cases (s : ByteArray) : decX s = 0 ∨ (decA s = [] ∧ (decX s = 5 ∨ decX s = 6)) := by
  unfold decX decA
  cases h : rdAll s.data.toList.length s.data.toList with
  | ok l => exact Or.inl rfl
  | error e => exact Or.inr ⟨rfl, all_err _ _ _ h⟩

/-- bytes without their last ones are those of fewer acts, or end too early -/
theorem all_pre : ∀ (l : List Ac) (p q : List UInt8) (f : Nat), allR l → (∀ a ∈ l, a.Kind) → p ++ q = encL l → p.length ≤ f → rdAll f p = .error 6 ∨ ∃ j, j ≤ l.length ∧ rdAll f p = .ok (l.take j)
  | l, [], q, f, _, _, _, _ => Or.inr ⟨0, Nat.zero_le _, by cases f <;> simp [rdAll]⟩
  | [], c :: p, q, f, _, _, h, _ => by simp [encL] at h
  | a :: l, c :: p, q, f, hr, hk, h, hf => by
    have e : encL (a :: l) = a.bytes.data.toList ++ encL l := by simp [encL]
    rw [e] at h
    obtain ⟨g, rfl⟩ : ∃ g, f = g + 1 := ⟨f - 1, by rw [List.length_cons] at hf; omega⟩
    have hb := one_back a (hr a (by simp)) (hk a (by simp)) (encL l)
    rw [← h] at hb
    obtain ⟨x1, x2⟩ := ext_one (c :: p) q
    simp only [rdAll]
    cases h1 : rdOne (c :: p) with
    | error x =>
      rcases x2 _ h1 with h6 | ⟨_, h5⟩
      · subst h6; exact Or.inl rfl
      · rw [hb] at h5; cases h5
    | ok y =>
      obtain ⟨b, R⟩ := y
      have hy := x1 _ _ h1
      rw [hb] at hy
      injection hy with hy
      injection hy with hba hR
      subst hba
      obtain ⟨i1, _, _⟩ := one_inv h1
      obtain ⟨c', M, hc⟩ := bytes_some a
      have hlen : R.length ≤ g := by
        have := congrArg List.length i1
        rw [List.length_append, hc, List.length_cons, List.length_cons] at this
        rw [List.length_cons] at hf
        omega
      simp only
      rcases all_pre l R q g (fun x hx => hr x (List.mem_cons_of_mem _ hx)) (fun x hx => hk x (List.mem_cons_of_mem _ hx)) hR.symm hlen with h2 | ⟨j, hj, h2⟩
      · rw [h2]; exact Or.inl rfl
      · rw [h2]; exact Or.inr ⟨j + 1, by simp; omega, rfl⟩
theorem dec_pre (l : List Ac) (hr : allR l) (hk : ∀ a ∈ l, a.Kind) (p : ByteArray) (q : List UInt8) (h : p.data.toList ++ q = (encB l).data.toList) :
    (decX p = 6 ∧ decA p = []) ∨ (decX p = 0 ∧ ∃ j, j ≤ l.length ∧ decA p = l.take j) := by
  rw [encB_list] at h
  unfold decX decA
  rcases all_pre l _ q _ hr hk h (Nat.le_refl _) with h | ⟨j, hj, h⟩
  · rw [h]; exact Or.inl ⟨rfl, rfl⟩
  · rw [h]; exact Or.inr ⟨rfl, j, hj, rfl⟩
theorem encB_app (l m : List Ac) : encB (l ++ m) = encB l ++ encB m := by
  apply ByteArray.ext
  apply Array.ext'
  rw [ByteArray.data_append, Array.toList_append, encB_list, encB_list, encB_list]
  simp [encL]

/-- just as many bytes as its kind asks for -/
def Ac.asks (a : Ac) : Nat :=
  if a.kind = 0 then 13 + a.id.size + a.va.size
  else if a.kind = 1 then 9
  else if a.kind = 2 then 2
  else if a.kind = 3 then 1
  else if a.kind = 4 then 3
  else 13 + a.keep.length
theorem right_kind (a : Ac) (h : a.Right) : 0 ≤ a.kind ∧ a.kind ≤ 5 := by
  obtain ⟨_, hf⟩ := h
  unfold Ac.fits at hf
  by_cases k0 : a.kind = 0
  · omega
  rw [if_neg k0] at hf
  by_cases k2 : a.kind = 2
  · omega
  rw [if_neg k2] at hf
  by_cases k4 : a.kind = 4
  · omega
  rw [if_neg k4] at hf
  by_cases k5 : a.kind = 5
  · omega
  rw [if_neg k5] at hf
  omega
theorem bytes_asks (a : Ac) (h : a.Right) : a.bytes.size = a.asks := by
  have hk := right_kind a h
  unfold Ac.asks Ac.bytes
  by_cases k0 : a.kind = 0
  · rw [if_pos k0, if_pos k0]; simp only [ByteArray.size_append, wput_size, txt_size]; omega
  rw [if_neg k0, if_neg k0]
  by_cases k1 : a.kind = 1
  · rw [if_pos k1, if_pos k1]; simp only [ByteArray.size_append, wput_size]
  rw [if_neg k1, if_neg k1]
  by_cases k2 : a.kind = 2
  · rw [if_pos k2, if_pos k2]; simp only [ByteArray.size_append, wput_size]
  rw [if_neg k2, if_neg k2]
  by_cases k4 : a.kind = 4
  · rw [if_pos k4, if_neg (by omega), if_pos k4]; simp only [ByteArray.size_append, wput_size]
  rw [if_neg k4]
  by_cases k3 : a.kind = 3
  · rw [if_pos k3, if_neg (by omega)]; simp only [wput_size]
  rw [if_neg k3, if_neg k4, if_pos (by omega)]
  simp only [ByteArray.size_append, wput_size, txt_size, kb_size]; omega
end Go.Proofs.Ytjkiofgllmjkcaa.G
