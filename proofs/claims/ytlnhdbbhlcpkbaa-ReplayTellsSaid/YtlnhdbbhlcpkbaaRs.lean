/- The records of a map, sorted by their ids. -/
import Derived.Test.YtlnhdbbhlcpkbaaRv
import Derived.Test.YtlnhdbbhlcpkbaaRp
import Derived.Test.YtlnhdbbhlcpkbaaSort
import Derived.Shelf.SlSortCmp.NoneTotal
import Derived.Shelf.SlicesQ.Reverse
import Derived.Lib.Hide
namespace Go.Proofs.Ytlnhdbbhlcpkbaa.G
open Go.RowKit Go.Maps Go.Sort Go.Shelf Go.Lib Go.Proofs
set_option linter.unusedVariables false
set_option linter.unusedSimpArgs false

instance : Inhabited Rec := ⟨Rec.zero⟩
abbrev cfR (x y : Rec) : Int := Lib.compareBytes x.id.data.toList y.id.data.toList
theorem ltR (x y : Rec) : ltOf cfR x y = decide (bl8 x.id < bl8 y.id) := by
  unfold ltOf
  exact decide_eq_decide.2 (cmpB_lt _ _)
theorem swoR : SWO (ltOf cfR) where
  irrefl x := by rw [ltR]; exact decide_eq_false (irrR _)
  trans x y z h1 h2 := by rw [ltR] at *; simp only [decide_eq_true_eq] at *; exact List.lt_trans h1 h2
  ntrans x y z h1 h2 := by
    rw [ltR] at *
    simp only [decide_eq_false_iff_not] at *
    exact fun h => by
      rcases Decidable.em (bl8 x.id < bl8 y.id) with h3 | h3
      · exact h1 h3
      · rcases Decidable.em (bl8 x.id = bl8 y.id) with h4 | h4
        · exact h2 (by rw [← h4]; exact h)
        · exact h2 (List.lt_trans (totR h3 h4) h)
set_option maxRecDepth 100000 in
set_option maxHeartbeats 2000000 in
theorem clos_val (x y : Rec) (W : World) : Calls Try.prog 25 #[encV x, encV y] W fun e w' => e = .returned (.int .i64 (cfR x y)) ∧ ∃ q os', w' = grow (W.drewN q) os' := by
  have hcon := fun W' => Any.strings_Compare Try.strCmp x.id y.id W'
  change ∀ W', Calls Try.prog 26 _ _ _ at hcon
  unfold cfR
  generalize Lib.compareBytes x.id.data.toList y.id.data.toList = r at hcon ⊢
  have HC := Lib.hid hcon
  clear hcon
  obtain ⟨O1, hO1⟩ : ∃ O, O = Obj.cells #[.int .u64 x.lsn, .int .u32 x.ep, .int .i64 x.kind, .int .u64 x.ver, .int .u64 x.dl, .string x.id, .string x.va] 42 := ⟨_, rfl⟩
  obtain ⟨O2, hO2⟩ : ∃ O, O = Obj.cells #[.int .u64 y.lsn, .int .u32 y.ep, .int .i64 y.kind, .int .u64 y.ver, .int .u64 y.dl, .string y.id, .string y.va] 42 := ⟨_, rfl⟩
  have n1 := heap_alloc_new W O1
  have n2 := heap_alloc_new (W.alloc O1) O2
  have n3 := (heap_alloc_old (W.alloc O1) O2 (lt_of_rowR n1)).trans n1
  rw [alloc_sizeR] at n2
  subst hO1 hO2
  have z1 := (cell_of_row _ _ 5 _ _ _ n2).trans (show _ = some (.string y.id) from rfl)
  have z2 := (cell_of_row _ _ 5 _ _ _ n3).trans (show _ = some (.string x.id) from rfl)
  clear n1 n2 n3
  go_enter Try.func25, Try.ntmps25
  go_wp2_with fail
  refine (HC.out _).mono ?_; rintro e w' ⟨rfl, rfl⟩
  go_wp2_with fail
  go_ret
  exact ⟨rfl, 0, _, by rw [alloc_eq_grow, alloc_eq_grow, grow_grow]; rfl⟩
theorem lays_R (blk off size : Nat) (w : World) : CmpLays Try.prog 25 #[] encR 7 cfR blk off size w :=
  fun _ _ _ _ x y => clos_val x y _
theorem grown_sortK {w : World} {g n : Nat} {os : Array Obj} (d : Array Rec) : w.grownBy (sortWorldK encR 7 w g 0 n d os) (some g) := by
  unfold sortWorldK putRowK
  refine ⟨rfl, rfl, rfl, by simp, fun k hk hne => ?_⟩
  rw [heap_grow_old _ _ (by simpa using hk)]
  have : g ≠ k := fun e => hne (by rw [e])
  simp [putRow, mapBlock, Sort.ahead, Array.getElem?_modify, this]
theorem aggR : ∀ w, (isAgg 42).run Try.prog w = .ok true w := fun _ => by kernel_rfl
theorem szR : ∀ w, (Go.sizeOf 42).run Try.prog w = .ok 7 w := fun _ => by kernel_rfl
theorem oneR : ∀ (x : Rec), ∀ v ∈ encR x, v.oneCell' = true := fun x v hv => by
  simp only [encR, List.mem_cons, List.not_mem_nil, or_false] at hv
  rcases hv with rfl | rfl | rfl | rfl | rfl | rfl | rfl <;> rfl
theorem str_nodup {w : World} {b n : Nat} {D : DataW Unit} (hown : w.ownsMap Try.prog 9 RS b n D) : (strKeys D).Nodup ∧ ∀ x, x ∈ strKeys D ↔ Maps.has D (.string x) = true := by
  obtain ⟨es, hD, hpw, _⟩ := hown.entries str_key
  obtain ⟨es', hD', hko⟩ := hown.keysOf
  obtain rfl : es = es' := by rw [hD] at hD'; simpa using hD'
  subst hD
  have hk : ∀ p ∈ es, ∃ x, p.1 = .string x := fun p hp => by obtain ⟨v, hv⟩ := hko p hp; obtain ⟨x, _, hx, _⟩ := Maps.keyOf_str Try.underlying9 hv; exact ⟨x, hx⟩
  constructor
  · show (es.map fun p => strOf p.1).Nodup
    refine List.pairwise_map.2 (hpw.imp_of_mem fun {p q} hp' hq' hne e => hne ?_)
    obtain ⟨a, ha⟩ := hk p hp'
    obtain ⟨b, hb⟩ := hk q hq'
    rw [ha, hb] at e ⊢
    exact congrArg _ e
  · intro x
    rw [has_eq, List.any_eq_true]
    show x ∈ es.map (fun p => strOf p.1) ↔ _
    rw [List.mem_map]
    constructor
    · rintro ⟨p, hp', rfl⟩
      obtain ⟨a, ha⟩ := hk p hp'
      exact ⟨p, hp', by rw [ha]; simp [Lit.sameKey, strOf]⟩
    · rintro ⟨p, hp', hs⟩
      obtain ⟨a, ha⟩ := hk p hp'
      rw [ha] at hs
      exact ⟨p, hp', by rw [ha]; simpa [Lit.sameKey, strOf] using hs⟩
/-- what the values of a map are -/
theorem vals_are {w : World} {b n : Nat} {D : DataW Unit} {acc : List Rec} (hown : w.ownsMap Try.prog 9 RS b n D) (hf : ∀ k : ByteArray, Maps.has D (.string (bl8 k)) = (look acc k).isSome ∧ ∀ s, look acc k = some s → ∀ z, D.atKey (.string (bl8 k)) z = cd s) (hs : Srt acc) {xs : List Rec} (hx : AllR D xs) :
    (xs.map fun r => bl8 r.id).Nodup ∧ (∀ r, r ∈ xs ↔ r ∈ acc) ∧ xs.length ≤ n := by
  obtain ⟨ps, rfl, h1, h2, h3⟩ := hx
  obtain ⟨hnd, hmem⟩ := str_nodup hown
  have key : ∀ p ∈ ps, p.1 = bl8 p.2.id ∧ look acc p.2.id = some p.2 := fun p hp => by
    have hh := (h2 p.1).1 (List.mem_map_of_mem hp)
    obtain ⟨k, hk⟩ : ∃ k : ByteArray, bl8 k = p.1 := ⟨⟨p.1.toArray⟩, by simp [bl8]⟩
    rw [← hk, (hf k).1] at hh
    obtain ⟨s, hsk⟩ := Option.isSome_iff_exists.1 hh
    have e1 := (hf k).2 s hsk (cd s)
    have e2 := h3 p hp (cd s)
    rw [← hk, e1] at e2
    have e3 := cd_inj e2
    subst e3
    have hid := (look_id hsk).1
    exact ⟨by rw [hid, hk], by rw [hid]; exact hsk⟩
  have hkeys : (ps.map (·.2)).map (fun r => bl8 r.id) = ps.map (·.1) := by
    rw [List.map_map]
    exact List.map_congr_left fun p hp => (key p hp).1.symm
  refine ⟨by rw [hkeys]; exact (h1.nodup_iff).2 hnd, fun r => ⟨fun h => ?_, fun h => ?_⟩, ?_⟩
  · obtain ⟨p, hp, rfl⟩ := List.mem_map.1 h
    exact (look_mem hs _).1 (key p hp).2
  · have hl := (look_mem hs r).2 h
    have hh : Maps.has D (.string (bl8 r.id)) = true := by rw [(hf r.id).1, hl]; rfl
    obtain ⟨p, hp, e⟩ := List.mem_map.1 ((h2 _).2 hh)
    obtain ⟨k1, k2⟩ := key p hp
    have e4 : p.2.id = r.id := bl8_inj (k1.symm.trans e)
    rw [e4, hl] at k2
    injection k2 with k2
    exact List.mem_map.2 ⟨p, hp, k2.symm⟩
  · have e1 : (ps.map (·.2)).length = (strKeys D).length := by rw [← h1.length_eq, List.length_map, List.length_map]
    obtain ⟨es, rfl, _⟩ := hown.entries str_key
    rw [e1]
    have : (strKeys (DataW.map es)).length = es.length := by show (es.map fun p => strOf p.1).length = _; rw [List.length_map]
    rw [this]
    exact hown.size_le
theorem sorted_acc {acc xs : List Rec} {d' : Array Rec} (hs : Srt acc) (hnd : (xs.map fun r => bl8 r.id).Nodup) (hmem : ∀ r, r ∈ xs ↔ r ∈ acc) (hp : PermIn 0 xs.toArray.size xs.toArray d') (ho : SortedIn (ltOf cfR) 0 xs.toArray.size d') : d'.toList = acc := by
  obtain ⟨hz, _, hpm⟩ := hp
  have hpm2 : d'.toList.Perm xs := by
    have e1 : d'.extract 0 xs.toArray.size = d' := by rw [← hz]; exact Array.extract_size
    have e2 : xs.toArray.extract 0 xs.toArray.size = xs.toArray := Array.extract_size
    rw [e1, e2] at hpm
    exact hpm
  have hnd2 : (d'.toList.map fun r => bl8 r.id).Nodup := ((hpm2.map _).nodup_iff).2 hnd
  refine srt_ext ?_ hs (fun r => (hpm2.mem_iff).trans (hmem r))
  unfold Srt
  rw [List.pairwise_iff_getElem]
  intro i j hi hj hij
  have hjs : j < xs.toArray.size := by rw [← hz]; simpa using hj
  have h1 := ho i j (Nat.zero_le _) hij hjs
  rw [ltR, decide_eq_false_iff_not] at h1
  have gi : d'[i]! = d'.toList[i] := by rw [getElem!_pos d' i (by simpa using hi)]; simp
  have gj : d'[j]! = d'.toList[j] := by rw [getElem!_pos d' j (by simpa using hj)]; simp
  rw [gi, gj] at h1
  refine totR h1 (fun e => ?_)
  have h2 := List.pairwise_iff_getElem.1 hnd2 i j (by simpa using hi) (by simpa using hj) hij
  rw [List.getElem_map, List.getElem_map] at h2
  exact h2 e.symm
theorem holdsK_own {w : World} {base g cap : Nat} {e : TypeId} {xs : List Rec} {cur : Array Value} (hg : w.heap[g]? = some (.cells cur e (0, 0))) (ht : cur.toList.take (xs.length * 7) = xs.flatMap encR) : HoldsK encR 7 w g 0 xs.toArray := by
  unfold HoldsK
  intro t h
  rw [size_flatK] at h
  have h' : t < xs.length * 7 := by simpa using h
  refine ⟨?_, by simp [World.frozen?, hg]⟩
  rw [get_flatK _ _ _ _ h, Nat.zero_add, cell_of_row _ _ _ _ _ _ hg]
  have hi : t / 7 < xs.length := by omega
  have e1 : (cur.toList.take (xs.length * 7))[t]? = (xs.flatMap encR)[t]? := by rw [ht]
  rw [List.getElem?_take_of_lt h'] at e1
  have e2 := flat_at 7 encR (fun _ => rfl) xs (t / 7) (t % 7) hi (by omega)
  rw [show t / 7 * 7 + t % 7 = t by omega] at e2
  rw [e2] at e1
  have e3 : xs.toArray[t / 7]! = xs[t / 7] := by rw [getElem!_pos xs.toArray (t / 7) (by simpa using hi)]; simp
  rw [e3]
  have e4 : (encR xs[t / 7])[t % 7]? = some (encR xs[t / 7])[t % 7]! := by
    have hl : t % 7 < (encR xs[t / 7]).length := by show t % 7 < 7; omega
    rw [List.getElem?_eq_getElem hl, getElem!_pos (encR xs[t / 7]) (t % 7) hl]
  rw [e4] at e1
  simpa using e1
theorem lr_holdsK {w : World} {g cap : Nat} {d : Array Rec} (h : HoldsK encR 7 w g 0 d) (hc : d.size ≤ cap) : LR 7 encR w (.slice (some ⟨g, 0, none⟩) d.size cap) d.toList := by
  refine ⟨_, cap, by simp, fun _ => by simpa using hc, fun i hi => ⟨g, 0, rfl, fun j u hu => ?_⟩⟩
  have hi' : i < d.size := by simpa using hi
  have e : d[i]! = d.toList[i] := by rw [getElem!_pos d i hi']; simp
  have := HoldsK.cells h (fun _ => rfl) hi' j u (by rw [e]; exact hu)
  rw [Addr.add_lit] at this
  exact this
end Go.Proofs.Ytlnhdbbhlcpkbaa.G
