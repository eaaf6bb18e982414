/- The ids that live, sorted. -/
import Derived.Test.YthpompgcnemanaaIi
import Derived.Test.YthpompgcnemanaaIter
import Derived.Test.YthpompgcnemanaaDel
namespace Go.Proofs.Ythpompgcnemanaa.G
open Go.RowKit Go.Maps Go.Proofs Go.Proofs.Ythpompgcnemanaa.WordPlain Go.Proofs.Ythpompgcnemanaa.Loose
set_option linter.unusedVariables false
set_option linter.unusedSimpArgs false

/-- the keys, by rising ids -/
structure KeysL (f : ByteArray → Option Ent) (ks : List ByteArray) : Prop where
  sorted : ks.Pairwise fun a b => bl8 a < bl8 b
  mem : ∀ k, k ∈ ks ↔ (f k).isSome = true
abbrev encK (k : ByteArray) : List Value := [.string k]

theorem Keys_val (b : Nat) (W : World) : Calls Try.prog 36 #[.map (some b)] W fun e w' =>
    e = .returned (.func (.func 43) #[] #[.pointer (some ⟨W.heap.size, 0, none⟩)]) ∧ w' = W.alloc (.cells #[.map (some b)] 64) :=
  callsIn_wide.1 (Try.maps_Keys_36 (some b) W)

theorem str_nodup {w : World} {b n : Nat} {D : DataW Unit} (hown : w.ownsMap Try.prog 9 kN.R b n D) : (strKeys D).Nodup ∧ ∀ x, x ∈ strKeys D ↔ Maps.has D (.string x) = true := by
  obtain ⟨es, hD, hpw, _⟩ := hown.entries str_key
  obtain ⟨es', hD', hko⟩ := hown.keysOf
  obtain rfl : es = es' := by rw [hD] at hD'; simpa using hD'
  subst hD
  have hk : ∀ p ∈ es, ∃ x, p.1 = .string x := fun p hp => by obtain ⟨v, hv⟩ := hko p hp; obtain ⟨x, _, hx, _⟩ := Maps.keyOf_str Try.underlying9 hv; exact ⟨x, hx⟩
  constructor
  · show (es.map fun p => strOf p.1).Nodup
    refine List.pairwise_map.2 (hpw.imp_of_mem fun {p q} hp' hq' hne e => hne ?_)
    obtain ⟨a, ha⟩ := hk p hp'
    obtain ⟨b, hb⟩ := hk q hq'
    rw [ha, hb] at e ⊢
    exact congrArg _ e
  · intro x
    rw [has_eq, List.any_eq_true]
    show x ∈ es.map (fun p => strOf p.1) ↔ _
    rw [List.mem_map]
    constructor
    · rintro ⟨p, hp', rfl⟩
      obtain ⟨a, ha⟩ := hk p hp'
      exact ⟨p, hp', by rw [ha]; simp [Lit.sameKey, strOf]⟩
    · rintro ⟨p, hp', hs⟩
      obtain ⟨a, ha⟩ := hk p hp'
      rw [ha] at hs
      exact ⟨p, hp', by rw [ha]; simpa [Lit.sameKey, strOf] using hs⟩
theorem sort_strict (ss : List (List UInt8)) (hnd : ss.Nodup) : (ss.mergeSort leB).Pairwise (fun a b => a < b) := by
  have tr : ∀ a b c : List UInt8, leB a b = true → leB b c = true → leB a c = true := fun a b c h1 h2 => by simp only [leB, decide_eq_true_eq] at *; exact List.le_trans h1 h2
  have to : ∀ a b : List UInt8, (leB a b || leB b a) = true := fun a b => by simp only [leB, Bool.or_eq_true, decide_eq_true_eq]; exact List.le_total a b
  have h1 := List.pairwise_mergeSort tr to ss
  have h2 : (ss.mergeSort leB).Nodup := (List.mergeSort_perm ss leB).nodup_iff.2 hnd
  refine (h1.and h2).imp fun {a b} h => ?_
  obtain ⟨ha, hb⟩ := h
  simp only [leB, decide_eq_true_eq] at ha
  rcases Decidable.em (a < b) with h | h
  · exact h
  · exact absurd (List.le_antisymm ha (List.not_lt.1 h)) hb
theorem Sorted_val (w : World) (b n : Nat) (f : ByteArray → Option Ent) (h : kN.Is Try.prog 9 w b n f) (hn : n ≤ 1000000) :
    Calls Try.prog 35 #[.func (.func 43) #[] #[.pointer (some ⟨w.heap.size, 0, none⟩)]] (w.alloc (.cells #[.map (some b)] 64)) fun e w' =>
      (∃ v ks, e = .returned v ∧ KeysL f ks ∧ ks.length ≤ n ∧ OwnL (w.alloc (.cells #[.map (some b)] 64)).heap.size 9 1 encK w' v ks) ∧ Below (w.alloc (.cells #[.map (some b)] 64)).heap.size (w.alloc (.cells #[.map (some b)] 64)) w' := by
  obtain ⟨D, hown, hf, hok⟩ := h
  have hsz := hown.size_le
  obtain ⟨hnd, hmem⟩ := str_nodup hown
  refine (callsIn_wide.1 (Try.slices_Sorted_keys_35_36 b n D kN.R w hown (by unfold maxLen; omega) (by omega))).mono ?_
  rintro e w' ⟨v, ss, he, hp, hrow, _, hb⟩
  refine ⟨⟨v, (ss.mergeSort leB).map (fun x => ⟨x.toArray⟩), he, ⟨?_, ?_⟩, ?_, ?_⟩, hb⟩
  · refine List.pairwise_map.2 ((sort_strict ss (hp.nodup_iff.2 hnd)).imp fun {a b} h => ?_)
    simpa [bl8] using h
  · intro k
    have key : (f k).isSome = true ↔ Maps.has D (.string (bl8 k)) = true := by
      constructor
      · intro hk
        exact ((hf k (hok k hk)).1).trans hk
      · intro hk
        have hk' := hk
        obtain ⟨es, hD, _⟩ := hown.entries str_key
        obtain ⟨es', hD', hko⟩ := hown.keysOf
        rw [hD, has_eq, List.any_eq_true] at hk'
        obtain ⟨p, hp, hs⟩ := hk'
        obtain rfl : es = es' := by rw [hD] at hD'; simpa using hD'
        obtain ⟨v, hv⟩ := hko p hp
        have e := WideAt.sameKey_eq hs
        rw [e] at hv
        obtain ⟨x, _, hx, hxl⟩ := Maps.keyOf_str Try.underlying9 hv
        have hkl : kN.ok k := by
          show k.size ≤ maxLen
          have h1 : bl8 k = x := by injection hx
          rw [← h1] at hxl
          have h2 : (bl8 k).length = k.size := by simp [bl8]
          rw [h2] at hxl
          exact hxl
        exact ((hf k hkl).1).symm.trans hk
    rw [key, ← hmem (bl8 k), ← hp.mem_iff, ← (List.mergeSort_perm ss leB).mem_iff, List.mem_map]
    constructor
    · rintro ⟨x, hx, rfl⟩
      simpa [bl8] using hx
    · intro hx
      exact ⟨bl8 k, hx, by simp [bl8]⟩
  · rw [List.length_map, List.length_mergeSort, hp.length_eq]
    obtain ⟨es, rfl, _⟩ := hown.entries str_key
    have : (strKeys (DataW.map es)).length = es.length := by show (es.map fun p => strOf p.1).length = _; rw [List.length_map]
    rw [this]
    exact hsz
  · have hl : ((ss.mergeSort leB).map (fun x => (⟨x.toArray⟩ : ByteArray))).length = ss.length := by rw [List.length_map, List.length_mergeSort]
    have hfm : ((ss.mergeSort leB).map (fun x => (⟨x.toArray⟩ : ByteArray))).flatMap encK = (ss.mergeSort leB).map encStr := by
      rw [List.flatMap_map]
      generalize ss.mergeSort leB = l
      induction l with
      | nil => rfl
      | cons a l ih => simp only [List.flatMap_cons, List.map_cons, ih]; rfl
    show w'.ownsRow _ _ _ _ _ _
    rw [hl, hfm]
    exact hrow
/-- keys of a length that a row can have -/
abbrev SKey := { k : ByteArray // k.size ≤ 140737488351232 }
instance : Inhabited SKey := ⟨⟨⟨#[]⟩, by decide⟩⟩
def encSK (k : SKey) : Value := .string k.1
def livB (N : ByteArray → Option Ent) (k : ByteArray) : Bool := ((N k).getD Ent.zero).live
theorem encSK_one : OneCell encSK := fun x => rfl
set_option maxRecDepth 100000 in
set_option maxHeartbeats 2000000 in
theorem clos_ids (w : World) (X bn bp n m : Nat) (N : ByteArray → Option Ent) (Q : Plc → Option ByteArray) (B : Nat) (k : ByteArray) (h : Ix w X bn bp n m N Q) (hk : k.size ≤ 140737488351232) (hB : w.cell? ⟨B, 0, none⟩ = some (.pointer (some ⟨X, 0, none⟩))) :
    Calls Try.prog 37 #[.string k, .pointer (some ⟨B, 0, none⟩)] w fun e w' => e = .returned (.bool (!livB N k)) ∧ ∃ q, w' = w.drewN q := by
  have hl := h.lookN1 k hk
  have c0 := h.c0
  unfold livB
  obtain ⟨s, hs⟩ : ∃ s, s = (N k).getD Ent.zero := ⟨_, rfl⟩
  rw [← hs] at hl ⊢
  obtain ⟨a, d, l, u, v, x⟩ := s
  simp only [Ent.row] at hl ⊢
  have fld : ∀ W : World, (Instr.field 49 (.agg #[.int .u64 (a : Int), .int .u64 (d : Int), .bool l, .int .i64 u, .int .i64 v, .int .i64 x]) 2).run Try.prog W = .ok (.bool l) W := fun W => by kernel_rfl
  clear hs h
  go_enter Try.func37, Try.ntmps37
  go_wp2_with fail
  go_ret
  exact ⟨rfl, 0, rfl⟩
theorem grown_put {w : World} {g n : Nat} {os : Array Obj} (d : Array SKey) : w.grownBy (sortWorld encSK w g 0 n d os) (some g) := by
  unfold sortWorld
  refine ⟨rfl, rfl, rfl, by simp, fun k hk hne => ?_⟩
  rw [Sort.heap_grow_old _ _ (by simpa using hk)]
  have : g ≠ k := fun e => hne (by rw [e])
  simp [Sort.putRow, Sort.mapBlock, Sort.ahead, Array.getElem?_modify, this]
theorem grown_put1 {w : World} {g n : Nat} (d : Array SKey) : w.grownBy (Sort.putRow encSK (Sort.ahead w n) g 0 d) (some g) := by
  refine ⟨rfl, rfl, rfl, by simp, fun k hk hne => ?_⟩
  have : g ≠ k := fun e => hne (by rw [e])
  simp [Sort.putRow, Sort.mapBlock, Sort.ahead, Array.getElem?_modify, this]
set_option maxRecDepth 100000 in
set_option maxHeartbeats 2000000 in
theorem IIdx_nil (w : World) (B : Nat) : Calls Try.prog 40 #[.slice none 0 0, .func (.func 37) #[] #[.pointer (some ⟨B, 0, none⟩)]] w fun e w' => e = .returned (.int .i64 (-1)) ∧ Below w.heap.size w w' := by
  go_enter Try.func40, Try.ntmps40
  go_wp2_with fail
  go_loopw [8] (fun i wr => i = .int .i64 0 ∧ wr = w) (fun _ _ => 0)
  case atStart => exact ⟨rfl, rfl⟩
  case round =>
    obtain ⟨rfl, rfl⟩ := hrel
    go_wp2_with fail
    go_ret
    exact ⟨rfl, Below.refl _ _⟩
set_option maxRecDepth 100000 in
set_option maxHeartbeats 2000000 in
theorem IDel_nil (w : World) (B : Nat) : Calls Try.prog 34 #[.slice none 0 0, .func (.func 37) #[] #[.pointer (some ⟨B, 0, none⟩)]] w fun e w' => e = .returned (.slice none 0 0) ∧ Below w.heap.size w w' := by
  have iv := IIdx_nil w B
  go_enter Try.func34, Try.ntmps34
  go_wp2_with fail
  refine iv.mono ?_; rintro e w1 ⟨rfl, b1⟩
  have HB := Lib.hid b1
  clear b1 iv
  go_wp2_with fail
  go_ret
  exact ⟨rfl, HB.out⟩
theorem filter_val (p : ByteArray → Bool) : ∀ l : List SKey, (l.filter fun x => p x.1).map (·.1) = (l.map (·.1)).filter p
  | [] => rfl
  | x :: l => by
    rw [List.map_cons, List.filter_cons, List.filter_cons, ← filter_val p l]
    split <;> rfl
theorem IDel_val (w : World) (X bn bp n m : Nat) (N : ByteArray → Option Ent) (Q : Plc → Option ByteArray) (B base : Nat) (v : Value) (ks : List ByteArray) (h : Ix w X bn bp n m N Q) (hB : w.cell? ⟨B, 0, none⟩ = some (.pointer (some ⟨X, 0, none⟩))) (hown : OwnL base 9 1 encK w v ks) (hks : ∀ k ∈ ks, k.size ≤ 140737488351232)
    (hX : X < base) (hn : bn < base) (hp : bp < base) (hBb : B < base) (hbase : base ≤ w.heap.size) (hl : ks.length ≤ 1000000) :
    Calls Try.prog 34 #[v, .func (.func 37) #[] #[.pointer (some ⟨B, 0, none⟩)]] w fun e w' => (∃ u, e = .returned u ∧ LR 1 encK w' u (ks.filter (livB N))) ∧ Below base w w' := by
  have ho := hown
  obtain ⟨h0, ⟨rfl, hz⟩ | ⟨g, cap, cur, rfl, hg, hh, hc, hm, hs, ht⟩⟩ := hown
  · have hl0 : ks = [] := List.length_eq_zero_iff.1 hz
    subst hl0
    exact (IDel_nil w B).mono fun e w' ⟨h1, h2⟩ => ⟨⟨_, h1, LR.nil _ _ _ _ _⟩, h2.mono hbase⟩
  · obtain ⟨kl, hkl⟩ : ∃ kl : List SKey, kl.map (·.1) = ks := ⟨ks.attach.map fun k => ⟨k.1, hks k.1 k.2⟩, by simp⟩
    have hlen : kl.length = ks.length := by rw [← hkl, List.length_map]
    have hsz : kl.toArray.size = ks.length := by simpa using hlen
    have hgl := lt_of_rowR hh
    have ixw : ∀ W : World, w.grownBy W (some g) → Ix W X bn bp n m N Q ∧ W.cell? ⟨B, 0, none⟩ = some (.pointer (some ⟨X, 0, none⟩)) := fun W hW => by
      refine ⟨h.keep (hW.block _ h.lts.1 (fun e => by injection e; omega)) (hW.block _ h.lts.2.1 (fun e => by injection e; omega)) (hW.block _ h.lts.2.2 (fun e => by injection e; omega)), ?_⟩
      exact (World.cell?_of_block (a := ⟨B, 0, none⟩) (hW.block B (by show B < _; omega) (fun e => by injection e; omega))).trans hB
    have hH : Sort.Holds encSK w g 0 kl.toArray := fun j hj => by
      have hj' : j < ks.length := by rw [← hsz]; exact hj
      have hjk : j < kl.length := by omega
      have e1 : (kl.toArray[j]!).1 = ks[j] := by
        rw [getElem!_pos kl.toArray j hj]
        have : (kl.map (·.1))[j]'(by rw [List.length_map]; exact hjk) = ks[j] := by simp only [hkl]
        simpa using this
      have e2 := flat_at 1 encK (fun _ => rfl) ks j 0 hj' (by decide)
      refine ⟨?_, frozen_of_row _ _ _ _ _ hh⟩
      rw [Nat.zero_add]
      refine (own_atR ho _ _ ((by simpa using e2 : (ks.flatMap encK)[j]? = _).trans rfl)).trans ?_
      show some (Value.string ks[j]) = some (Value.string (kl.toArray[j]!).1)
      rw [e1]
    have hpred : PredAt Try.prog 37 #[.pointer (some ⟨B, 0, none⟩)] encSK (fun x => !livB N x.1) w := fun W x hW => by
      have := ixw W ⟨hW.os, hW.tape, hW.output, hW.size, fun i hi _ => hW.block i hi⟩
      exact clos_ids W X bn bp n m N Q B x.1 this.1 x.2 this.2
    have hover : PredOver Try.prog 37 #[.pointer (some ⟨B, 0, none⟩)] encSK (fun x => !livB N x.1) g 0 kl.toArray.size w := fun q os dk x hd => by
      have := ixw _ (grown_put dk (n := q) (os := os))
      exact clos_ids _ X bn bp n m N Q B x.1 this.1 x.2 this.2
    have c := AnyE.slices_DeleteFunc Try.delStr encSK encSK_one (fun x => !livB N x.1) 37 #[.pointer (some ⟨B, 0, none⟩)] (enters_of Try.func37 (by kernel_rfl) rfl) ⟨⟨#[]⟩, by decide⟩ (fun W => by kernel_rfl) g 0 cap kl.toArray w hpred hover hH (by omega) (by omega)
    rw [hsz] at c
    refine Calls.mono (f := 34) c ?_
    rintro e w' ⟨rfl, q, rfl⟩
    have hfl : (kl.toArray.toList.filter fun x => !(fun x : SKey => !livB N x.1) x) = kl.filter fun x => livB N x.1 := by simp
    obtain ⟨F, hF⟩ : ∃ F, F = kl.filter fun x => livB N x.1 := ⟨_, rfl⟩
    have hFks : F.map (·.1) = ks.filter (livB N) := by rw [hF, filter_val, hkl]
    have hFl : F.length ≤ ks.length := by rw [hF, ← hlen]; exact List.length_filter_le _ _
    have hFl2 : (ks.filter (livB N)).length = F.length := by rw [← hFks, List.length_map]
    rw [hfl, ← hF]
    obtain ⟨D2, hD2⟩ : ∃ D, D = (F ++ List.replicate (kl.toArray.size - F.length) (⟨⟨#[]⟩, by decide⟩ : SKey)).toArray := ⟨_, rfl⟩
    have hD2s : D2.size = kl.toArray.size := by rw [hD2]; simp; omega
    have gp := grown_put1 (w := w) (g := g) (n := q) D2
    have hh2 := Sort.holds_putRow encSK (Sort.ahead w q) g 0 kl.toArray D2 hH hD2s
    rw [← hsz, ← hD2]
    refine ⟨⟨_, rfl, ⟨some ⟨g, 0, none⟩, cap, by rw [hFl2], fun _ => by rw [hFl2]; omega, fun i hi => ⟨g, 0, rfl, fun j u hu => ?_⟩⟩⟩, gp.os, gp.tape, gp.output, gp.size, fun i hi => gp.block i (by omega) (fun e => by injection e; omega)⟩
    have hiF : i < F.length := by rw [← hFl2]; exact hi
    match j, hu with
    | 0, hu =>
      obtain ⟨h1, _⟩ := hh2 i (by rw [hD2s, hsz]; omega)
      have e1 : (D2[i]!).1 = (ks.filter (livB N))[i] := by
        rw [getElem!_pos D2 i (by rw [hD2s, hsz]; omega)]
        have e2 : D2[i]'(by rw [hD2s, hsz]; omega) = F[i] := by simp [hD2, List.getElem_append_left hiF]
        rw [e2]
        have : (F.map (·.1))[i]'(by rw [List.length_map]; exact hiF) = (ks.filter (livB N))[i] := by simp only [hFks]
        simpa using this
      rw [show (0 : Nat) + i * 1 + 0 = 0 + i by omega, h1]
      rw [← hu]
      show some (Value.string (D2[i]!).1) = some (Value.string (ks.filter (livB N))[i])
      rw [e1]
    | j + 1, hu => simp at hu
set_option maxRecDepth 100000 in
set_option maxHeartbeats 2000000 in
theorem IIDs_val (w : World) (X bn bp n m : Nat) (N : ByteArray → Option Ent) (Q : Plc → Option ByteArray) (h : Ix w X bn bp n m N Q) (hn : n ≤ 1000000) (hid : ∀ i s, N i = some s → i.size ≤ 140737488351232) :
    Calls Try.prog 15 #[.pointer (some ⟨X, 0, none⟩)] w fun e w' => (∃ u ks, e = .returned u ∧ KeysL N ks ∧ ks.length ≤ n ∧ LR 1 encK w' u (ks.filter (livB N))) ∧ Below w.heap.size w w' := by
  have b0 : Below w.heap.size w (w.alloc (.cells #[.pointer (some ⟨X, 0, none⟩)] (23 : Nat))) := (Below.refl _ _).alloc (Nat.le_refl _) _
  have ix0 := h.below b0
  have kv := Keys_val bn (w.alloc (.cells #[.pointer (some ⟨X, 0, none⟩)] (23 : Nat)))
  have sv := Sorted_val (w.alloc (.cells #[.pointer (some ⟨X, 0, none⟩)] (23 : Nat))) bn n N ix0.news hn
  have s0 := alloc_sizeR w (.cells #[.pointer (some ⟨X, 0, none⟩)] (23 : Nat))
  obtain ⟨W1, hW1⟩ : ∃ W, W = (w.alloc (.cells #[.pointer (some ⟨X, 0, none⟩)] (23 : Nat))).alloc (.cells #[.map (some bn)] 64) := ⟨_, rfl⟩
  have b1 : Below (w.alloc (.cells #[.pointer (some ⟨X, 0, none⟩)] (23 : Nat))).heap.size (w.alloc (.cells #[.pointer (some ⟨X, 0, none⟩)] (23 : Nat))) W1 := by rw [hW1]; exact (Below.refl _ _).alloc (Nat.le_refl _) _
  rw [← hW1, s0] at sv
  rw [← hW1] at kv
  have c0 := ix0.c0
  have bx : (w.alloc (.cells #[.pointer (some ⟨X, 0, none⟩)] (23 : Nat))).cell? ⟨w.heap.size, 0, none⟩ = some (.pointer (some ⟨X, 0, none⟩)) := (cell_of_row _ _ 0 _ _ _ (heap_alloc_new _ _)).trans rfl
  have KV := Lib.hid kv
  have SV := Lib.hid sv
  have IX1 := Lib.hid (ix0.below b1)
  have BX1 := Lib.hid ((b1.cell (p := ⟨w.heap.size, 0, none⟩) (lt_of_cellR bx)).trans bx)
  have B1 := Lib.hid (stepR b0 b1)
  have LTS := Lib.hid h.lts
  have SZ := Lib.hid (show w.heap.size < W1.heap.size by have := b1.size; omega)
  have HID := Lib.hid hid
  have HN := Lib.hid hn
  have hmf : ∀ (fn : Fn) (first cap : Array Value) (w : World), (Instr.makeFunc fn first cap).run Try.prog w = .ok (.func fn first cap) w := fun _ _ _ _ => rfl
  clear kv sv ix0 b0 b1 bx h s0 hW1 hid hn
  go_enter Try.func15, Try.ntmps15
  go_wp2_with fail
  refine KV.out.mono ?_; rintro e wq ⟨rfl, rfl⟩
  clear KV
  go_wp2_with fail
  refine SV.out.mono ?_; rintro e w2 ⟨⟨v, ks, rfl, hks, hlen, hown⟩, b2⟩
  have dv := IDel_val w2 X bn bp n m N Q w.heap.size wq.heap.size v ks (IX1.out.below b2) ((b2.cell (p := ⟨w.heap.size, 0, none⟩) SZ.out).trans BX1.out) hown (fun k hk => by
    obtain ⟨s, hs⟩ := Option.isSome_iff_exists.1 ((hks.mem k).1 hk)
    exact HID.out k s hs) (by have := LTS.out.1; have := SZ.out; omega) (by have := LTS.out.2.1; have := SZ.out; omega) (by have := LTS.out.2.2; have := SZ.out; omega) SZ.out b2.size (by have := HN.out; omega)
  have DV := Lib.hid dv
  have HKS := Lib.hid hks
  have HLN := Lib.hid hlen
  have B2 := Lib.hid b2
  clear dv hks hlen hown b2 SV
  go_wp2_with fail
  refine DV.out.mono ?_; rintro e w3 ⟨⟨u, rfl, hu⟩, b3⟩
  have HU := Lib.hid hu
  have BE := Lib.hid (stepR B1.out (B2.out.trans b3))
  clear hu b3 DV
  go_wp2_with fail
  go_ret
  exact ⟨⟨_, ks, rfl, HKS.out, HLN.out, HU.out⟩, BE.out⟩
theorem ILives_val (w : World) (X bn bp n m : Nat) (N : ByteArray → Option Ent) (Q : Plc → Option ByteArray) (h : Ix w X bn bp n m N Q) (hn : n ≤ 1000000) (hid : ∀ i s, N i = some s → i.size ≤ 140737488351232) :
    Calls Try.prog 18 #[.pointer (some ⟨X, 0, none⟩)] w fun e w' => (∃ ks : List ByteArray, e = .returned (.int .i64 ((ks.filter (livB N)).length : Int)) ∧ KeysL N ks ∧ ks.length ≤ n) ∧ Below w.heap.size w w' := by
  have iv := Lib.hid (IIDs_val w X bn bp n m N Q h hn hid)
  clear h hid
  go_enter Try.func18, Try.ntmps18
  go_wp2_with fail
  refine iv.out.mono ?_; rintro e w1 ⟨⟨u, ks, rfl, hks, hlen, hu⟩, b1⟩
  obtain ⟨oa, cap, rfl, _⟩ := hu
  have HKS := Lib.hid hks
  have HLN := Lib.hid hlen
  have HB := Lib.hid b1
  clear hks hlen b1 iv
  go_wp2_with fail
  go_ret
  exact ⟨⟨ks, rfl, HKS.out, HLN.out⟩, HB.out⟩
theorem keysL_uniq {f : ByteArray → Option Ent} {ks ks' : List ByteArray} (h : KeysL f ks) (h' : KeysL f ks') : ks = ks' := by
  have irr : ∀ a : List UInt8, ¬ a < a := fun a => List.lt_irrefl a
  have nd : ∀ {l : List ByteArray}, (l.Pairwise fun x y => bl8 x < bl8 y) → l.Nodup := fun hl => hl.imp fun {a b} h e => by subst e; exact irr _ h
  refine List.Perm.eq_of_pairwise (le := fun x y => bl8 x < bl8 y) (fun a b _ _ h1 h2 => absurd (List.lt_trans h1 h2) (irr _)) h.sorted h'.sorted ?_
  exact (List.perm_ext_iff_of_nodup (nd h.sorted) (nd h'.sorted)).2 fun k => (h.mem k).trans (h'.mem k).symm
end Go.Proofs.Ythpompgcnemanaa.G
