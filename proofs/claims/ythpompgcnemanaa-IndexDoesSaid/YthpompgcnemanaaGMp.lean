/- Maps as plain functions, whatever the keys and the elements: look, store, drop, range. -/
import Derived.Test.YthpompgcnemanaaGMisc
import Derived.Maps.OwnSet
import Derived.Maps.RangeWalk
import Derived.Sort.KeysCollected
import Derived.OwnWalk
namespace Go.Proofs.Ythpompgcnemanaa.G
open Go.RowKit Go.Maps
set_option linter.unusedVariables false
set_option linter.unusedSimpArgs false

/-- how keys and elements stand in memory, and what they read as -/
structure Mk (κ ε : Type) where
  kv : κ → Value
  kl : κ → Lit
  ok : κ → Prop
  mv : ε → Value
  cd : ε → DataW Unit
  R : Value → Option (DataW Unit × List MemPlace)
  zero : ε
structure Mk.Law {κ ε : Type} (M : Mk κ ε) (P : Program) (t k e : TypeId) : Prop where
  K : Keyed P k
  ht : P.underlying t = some (.map k e)
  key : ∀ x, M.ok x → keyOf P k (M.kv x) = some (M.kl x)
  inv : ∀ {v l}, keyOf P k v = some l → ∃ x, M.ok x ∧ v = M.kv x
  kvinj : ∀ {x y}, M.kv x = M.kv y → x = y
  Rmk : ∀ s, M.R (M.mv s) = some (M.cd s, [])
  Rinv : ∀ {v y}, M.R v = some y → ∃ s, v = M.mv s
  cdinj : ∀ {s s'}, M.cd s = M.cd s' → s = s'
  zero : ∀ W, (zeroValue e).run P W = .ok (M.mv M.zero) W

section
variable {κ ε : Type} {M : Mk κ ε} {P : Program} {t k e : TypeId}

theorem Mk.Law.klinj (L : M.Law P t k e) {x y : κ} (hx : M.ok x) (hy : M.ok y) (h : M.kl x = M.kl y) : x = y := L.kvinj (L.K.inj (L.key x hx) (h ▸ L.key y hy))
theorem Mk.Law.read (L : M.Law P t k e) {v : Value} {s : ε} {ps : List MemPlace} (h : M.R v = some (M.cd s, ps)) : v = M.mv s := by
  obtain ⟨s', rfl⟩ := L.Rinv h
  rw [L.Rmk] at h
  injection h with h
  injection h with h _
  rw [L.cdinj h]
theorem Mk.Law.keyLit (L : M.Law P t k e) {x : κ} (hx : M.ok x) : WideAt.IsKeyLit (M.kl x) := L.K.key (L.key x hx)
theorem Mk.Law.same [DecidableEq κ] (L : M.Law P t k e) {x y : κ} (hx : M.ok x) (hy : M.ok y) : (M.kl y).sameKey (M.kl x) = decide (y = x) := by
  by_cases h : y = x
  · subst h
    rw [WideAt.sameKey_self (L.keyLit hy), decide_eq_true rfl]
  · rw [decide_eq_false h]
    cases hs : (M.kl y).sameKey (M.kl x)
    · rfl
    · exact absurd (L.klinj hy hx (WideAt.sameKey_eq hs)) h

/-- the datum reads as the function -/
def Mk.Rd (M : Mk κ ε) (D : DataW Unit) (f : κ → Option ε) : Prop :=
  (∀ x, M.ok x → Maps.has D (M.kl x) = (f x).isSome ∧ ∀ s, f x = some s → ∀ z, D.atKey (M.kl x) z = M.cd s) ∧ ∀ x, (f x).isSome = true → M.ok x
/-- the block is a map that holds f, of at most n entries -/
def Mk.Is (M : Mk κ ε) (P : Program) (k : TypeId) (w : World) (b n : Nat) (f : κ → Option ε) : Prop := ∃ D : DataW Unit, w.ownsMap P k M.R b n D ∧ M.Rd D f
variable {w : World} {b r n : Nat} {f : κ → Option ε}

theorem Mk.Is.made (w : World) : M.Is P k (w.alloc (.map #[] 0)) w.heap.size 0 (fun _ => none) :=
  ⟨.map [], World.ownsMap_made _ _ _ _, fun x _ => ⟨rfl, fun s h => by cases h⟩, fun x h => by cases h⟩
theorem Mk.Is.lt (h : M.Is P k w b n f) : b < w.heap.size := let ⟨_, h, _⟩ := h; h.lt
theorem Mk.Is.kept {w' : World} (h : M.Is P k w b n f) (he : w'.heap[b]? = w.heap[b]?) : M.Is P k w' b n f := by
  obtain ⟨D, ⟨es, clock, hb, F, hs, hD⟩, hf⟩ := h
  exact ⟨D, ⟨es, clock, he.trans hb, F, hs, hD⟩, hf⟩
theorem Mk.Is.below {w' : World} (h : M.Is P k w b n f) (hb : Below w.heap.size w w') : M.Is P k w' b n f := h.kept (hb.block b h.lt)
theorem Mk.Is.mono {m : Nat} (h : M.Is P k w b n f) (hm : n ≤ m) : M.Is P k w b m f := let ⟨D, h, hf⟩ := h; ⟨D, h.mono hm, hf⟩
theorem Mk.Is.ok (h : M.Is P k w b n f) {x : κ} {s : ε} (hx : f x = some s) : M.ok x := let ⟨_, _, _, h⟩ := h; h x (by rw [hx]; rfl)

theorem Mk.Is.look (L : M.Law P t k e) (h : M.Is P k w b n f) (x : κ) (hx : M.ok x) :
    (Instr.lookup t (.map (some b)) (M.kv x) true).run P w = .ok (.tuple #[M.mv ((f x).getD M.zero), .bool (f x).isSome]) w := by
  obtain ⟨D, hown, hf, _⟩ := h
  obtain ⟨v, ps, hr, hv⟩ := hown.look_ok L.K L.ht (L.zero w) (L.Rmk M.zero) (L.key x hx)
  obtain ⟨h1, h2⟩ := hf x hx
  rw [hr, h1]
  cases hs : f x with
  | none =>
    rw [hs] at h1
    rw [atKey_of_not_has h1] at hv
    rw [L.read hv]; rfl
  | some s =>
    rw [h2 s hs] at hv
    rw [L.read hv]; rfl
theorem Mk.Is.look1 (L : M.Law P t k e) (h : M.Is P k w b n f) (x : κ) (hx : M.ok x) :
    (Instr.lookup t (.map (some b)) (M.kv x) false).run P w = .ok (M.mv ((f x).getD M.zero)) w := by
  obtain ⟨D, hown, hf, _⟩ := h
  obtain ⟨v, ps, hr, hv⟩ := hown.lookup L.K L.ht (L.zero w) (L.Rmk M.zero) (L.key x hx)
  obtain ⟨h1, h2⟩ := hf x hx
  rw [hr]
  cases hs : f x with
  | none =>
    rw [hs] at h1
    rw [atKey_of_not_has h1] at hv
    rw [L.read hv]; rfl
  | some s =>
    rw [h2 s hs] at hv
    rw [L.read hv]; rfl

section
variable [DecidableEq κ]
def updM (f : κ → Option ε) (x : κ) (s : Option ε) : κ → Option ε := fun y => if y = x then s else f y
theorem updM_same (f : κ → Option ε) (x : κ) (s : Option ε) : updM f x s x = s := if_pos rfl
theorem updM_other {f : κ → Option ε} {x y : κ} {s : Option ε} (h : y ≠ x) : updM f x s y = f y := if_neg h
theorem Mk.Rd.put (L : M.Law P t k e) {D : DataW Unit} (hD : IsMap D) (h : M.Rd D f) {x : κ} (hx : M.ok x) (s : ε) : M.Rd (D.put (M.kl x) (M.cd s)) (updM f x (some s)) := by
  constructor
  · intro y hy
    by_cases e : y = x
    · subst e
      rw [updM_same]
      exact ⟨has_put_same hD (L.keyLit hx) _, fun t ht z => by cases ht; exact atKey_put_same hD (L.keyLit hx) _ z⟩
    · have hne : M.kl y ≠ M.kl x := fun h => e (L.klinj hy hx h)
      rw [updM_other e]
      exact ⟨(has_put_other hne _).trans (h.1 y hy).1, fun t ht z => (atKey_put_other hne _ z).trans ((h.1 y hy).2 t ht z)⟩
  · intro y hy
    by_cases e : y = x
    · subst e; exact hx
    · rw [updM_other e] at hy; exact h.2 y hy
theorem Mk.Rd.del (L : M.Law P t k e) {D : DataW Unit} (h : M.Rd D f) {x : κ} (hx : M.ok x) : M.Rd (D.del (M.kl x)) (updM f x none) := by
  constructor
  · intro y hy
    by_cases e : y = x
    · subst e
      rw [updM_same]
      exact ⟨has_del_same, fun t ht => by cases ht⟩
    · have hne : M.kl y ≠ M.kl x := fun h => e (L.klinj hy hx h)
      rw [updM_other e]
      exact ⟨(has_del_other hne).trans (h.1 y hy).1, fun t ht z => (atKey_del_other hne z).trans ((h.1 y hy).2 t ht z)⟩
  · intro y hy
    by_cases e : y = x
    · subst e; rw [updM_same] at hy; cases hy
    · rw [updM_other e] at hy; exact h.2 y hy
theorem turned_size {w w' : World} {b : Nat} (h : w.mapTurned w' b) : w'.heap.size = w.heap.size := by
  obtain ⟨es, c, es', c', hb, rfl⟩ := h
  simp [Go.ChangeMaps.setBlock]
theorem Mk.Is.store (L : M.Law P t k e) (h : M.Is P k w b n f) (hn : n < 1000000) (x : κ) (hx : M.ok x) (s : ε) :
    ∃ w', (Instr.mapUpdate t (.map (some b)) (M.kv x) (M.mv s)).run P w = .ok () w' ∧ M.Is P k w' b (n + 1) (updM f x (some s)) ∧ w.grownBy w' (some b) ∧ w'.heap.size = w.heap.size := by
  obtain ⟨D, hown, hf⟩ := h
  obtain ⟨w', hr, h1, h2⟩ := hown.store L.K L.ht (by unfold maxLen; omega) (L.key x hx) (L.Rmk s)
  exact ⟨w', hr, ⟨_, h1, hf.put L hown.isMap hx s⟩, h2.grown, turned_size h2⟩
theorem Mk.Is.drop (L : M.Law P t k e) (h : M.Is P k w b n f) (x : κ) (hx : M.ok x) (ty : TypeId) :
    ∃ w', (Builtin.delete_ #[t, k] ty #[.map (some b), M.kv x]).run P w = .ok (.tuple #[]) w' ∧ M.Is P k w' b n (updM f x none) ∧ w.grownBy w' (some b) ∧ w'.heap.size = w.heap.size := by
  obtain ⟨D, hown, hf⟩ := h
  obtain ⟨w', hr, h1, h2⟩ := hown.drop L.K L.ht (L.key x hx) ty
  exact ⟨w', hr, ⟨_, h1, hf.del L hx⟩, h2.grown, turned_size h2⟩

end
/-! ### ranging -/
/-- a loop over the map is under way; 'left': what is still to come -/
def Mk.Rg (M : Mk κ ε) (P : Program) (k : TypeId) (w : World) (b r n : Nat) (f : κ → Option ε) (left : κ → Bool) (cnt : Nat) : Prop :=
  ∃ D lf, w.ranges P k M.R b r n D lf cnt ∧ M.Rd D f ∧ ∀ x, M.ok x → lf (M.kl x) = left x
variable {left : κ → Bool} {cnt : Nat}
theorem Mk.Rg.is (h : M.Rg P k w b r n f left cnt) : M.Is P k w b n f := let ⟨D, _, h1, h2, _⟩ := h; ⟨D, h1.owns, h2⟩
theorem Mk.Rg.left_eq (h : M.Rg P k w b r n f left cnt) : w.rangeLeft b r = cnt := let ⟨_, _, h, _⟩ := h; h.left_eq
theorem Mk.Rg.ne (h : M.Rg P k w b r n f left cnt) : r ≠ b := let ⟨_, _, h, _⟩ := h; h.ne
theorem Mk.Rg.lt (h : M.Rg P k w b r n f left cnt) : r < w.heap.size := let ⟨_, _, h, _⟩ := h; h.lt
theorem Mk.Rg.kept {w' : World} {row : Option Nat} (h : M.Rg P k w b r n f left cnt) (hg : w.grownBy w' row) (hb : some b ≠ row) (hr : some r ≠ row) : M.Rg P k w' b r n f left cnt :=
  let ⟨D, lf, h1, h2⟩ := h; ⟨D, lf, h1.kept hg hb hr, h2⟩
theorem Mk.Rg.below {w' : World} (h : M.Rg P k w b r n f left cnt) (hb : Below w.heap.size w w') : M.Rg P k w' b r n f left cnt :=
  h.kept (row := none) ⟨hb.os, hb.tape, hb.output, hb.size, fun i hi _ => hb.block i hi⟩ (by simp) (by simp)
theorem Mk.Is.range (L : M.Law P t k e) (h : M.Is P k w b n f) :
    ∃ w', (Instr.range t (.map (some b))).run P w = .ok (.pointer (some ⟨w.heap.size, 0, none⟩)) w' ∧ (∃ c, M.Rg P k w' b w.heap.size n f (fun x => (f x).isSome) c) ∧ Below w.heap.size w w' := by
  obtain ⟨D, hown, hf⟩ := h
  obtain ⟨w', hr, h1, h2, h3⟩ := hown.range L.K L.ht
  exact ⟨w', hr, ⟨_, D, _, h1, hf, fun x hx => (hf.1 x hx).1⟩, h2.os, h2.tape, h2.output, h2.size, fun i hi => h2.block i hi (by simp)⟩
theorem Mk.Rg.drop [DecidableEq κ] (L : M.Law P t k e) (h : M.Rg P k w b r n f left cnt) (x : κ) (hx : M.ok x) (ty : TypeId) :
    ∃ w' c, (Builtin.delete_ #[t, k] ty #[.map (some b), M.kv x]).run P w = .ok (.tuple #[]) w' ∧ M.Rg P k w' b r n (updM f x none) (fun z => left z && !decide (z = x)) c ∧ c ≤ cnt ∧ w.grownBy w' (some b) ∧ w'.heap.size = w.heap.size := by
  obtain ⟨D, lf, h1, h2, h3⟩ := h
  obtain ⟨w', c, hr, h4, h5, h6⟩ := h1.drop L.K L.ht (L.key x hx) ty
  exact ⟨w', c, hr, ⟨_, _, h4, h2.del L hx, fun y hy => by rw [h3 y hy, L.same hx hy]⟩, h5, h6.grown, turned_size h6⟩
/-- the step -/
theorem wpList_next_mp [DecidableEq κ] {ops : Array Oper} {rest : List Oper} {o : Oper} {a : Act} {Q : Exit → Act → World → Prop} (L : M.Law P t k e) (hg : o.guard = none) (it : Operand) (hop : o.op = Op.next it false)
    (hit : a.eval it = .pointer (some ⟨r, 0, none⟩)) (h : M.Rg P k w b r n f left cnt)
    (hDone : (∀ x, M.ok x → left x = false) → wpList P ops Q rest (a.put o.dst (.tuple #[.bool false])) w)
    (hMore : ∀ (x : κ) (c : ε) (w' : World) (cnt' : Nat), left x = true → f x = some c → M.Rg P k w' b r n f (fun z => left z && !decide (z = x)) cnt' → cnt' < cnt → w.grownBy w' (some r) → w'.heap.size = w.heap.size →
      (Instr.entry (.pointer (some ⟨r, 0, none⟩))).run P w' = .ok (.tuple #[M.kv x, M.mv c]) w' → wpList P ops Q rest (a.put o.dst (.tuple #[.bool true, M.kv x, M.mv c])) w') :
    wpList P ops Q (o :: rest) a w := by
  obtain ⟨D, lf, h1, h2, h3⟩ := h
  refine wpList_next_ranges w hg it hop k L.K M.R M.kv M.mv (fun key kl hk => let ⟨x, _, h⟩ := L.inv hk; ⟨x, h⟩) (fun v y hv => L.Rinv hv) b r n D lf cnt hit h1 (fun _ hl => hDone (fun x hx => by rw [← h3 x hx]; exact hl _)) ?_
  intro x c kl y w' cnt' hk hl hR hat hrg hlt hgr hsz hen
  obtain ⟨x', hx', he⟩ := L.inv hk
  obtain rfl := L.kvinj he
  rw [L.key x hx'] at hk
  obtain rfl := Option.some.inj hk
  rw [L.Rmk] at hR
  obtain rfl := Option.some.inj hR
  have hh := has_true_of_atKey hat
  rw [(h2.1 x hx').1] at hh
  have hf : f x = some c := by
    cases hs : f x with
    | none => rw [hs] at hh; cases hh
    | some s =>
      have h5 := (h2.1 x hx').2 s hs .nil
      rw [hat] at h5
      rw [L.cdinj h5]
  exact hMore x c w' cnt' ((h3 x hx').symm.trans hl) hf ⟨D, _, hrg, h2, fun z hz => by rw [h3 z hz, L.same hx' hz]⟩ hlt hgr hsz hen
/-- what stands ahead of a loop -/
theorem wpList_range_mp {ops : Array Oper} {rest : List Oper} {o : Oper} {a : Act} {Q : Exit → Act → World → Prop} (L : M.Law P t k e) (hg : o.guard = none) (m : Operand) (hop : o.op = Op.range t m)
    (hm : a.eval m = .map (some b)) (h : M.Is P k w b n f)
    (hK : ∀ w' c, M.Rg P k w' b w.heap.size n f (fun x => (f x).isSome) c → Below w.heap.size w w' → wpList P ops Q rest (a.put o.dst (.pointer (some ⟨w.heap.size, 0, none⟩))) w') :
    wpList P ops Q (o :: rest) a w := by
  refine wpList_plain hg fun K' hK' => ?_
  obtain ⟨w', hrun, ⟨c, h1⟩, h2⟩ := h.range L
  unfold Oper.wp
  simp [execOp, hop, hm, hrun, Result.andThen]
  exact hK' _ _ (hK w' c h1 h2)

/-! ### what a map holds, as a list -/
def En (f : κ → Option ε) (l : List (κ × ε)) : Prop := (l.map (·.1)).Nodup ∧ ∀ x s, (x, s) ∈ l ↔ f x = some s
theorem En.nodup {l : List (κ × ε)} (h : En f l) : l.Nodup := (List.pairwise_map.1 h.1).imp fun {a b} hne e => hne (by rw [e])
theorem En.perm {l l' : List (κ × ε)} (h : En f l) (h' : En f l') : l.Perm l' :=
  (List.perm_ext_iff_of_nodup h.nodup h'.nodup).2 fun ⟨x, s⟩ => (h.2 x s).trans (h'.2 x s).symm
theorem En.nil : En (fun _ => none : κ → Option ε) [] := ⟨List.nodup_nil, fun x s => Iff.intro (fun h => nomatch h) (fun h => nomatch h)⟩
theorem pick_list {es : List (Lit × DataW Unit)} (h : ∀ p ∈ es, ∃ x s, M.ok x ∧ M.kl x = p.1 ∧ f x = some s) : ∃ l : List (κ × ε), l.map (fun q => M.kl q.1) = es.map (·.1) ∧ ∀ q ∈ l, M.ok q.1 ∧ f q.1 = some q.2 := by
  induction es with
  | nil => exact ⟨[], rfl, fun q h => by cases h⟩
  | cons p es ih =>
    obtain ⟨l, h1, h2⟩ := ih fun q hq => h q (List.mem_cons_of_mem _ hq)
    obtain ⟨x, s, h3, h4, h5⟩ := h p (List.mem_cons_self ..)
    refine ⟨(x, s) :: l, by rw [List.map_cons, List.map_cons, h1, h4], fun q hq => ?_⟩
    rcases List.mem_cons.1 hq with rfl | hq
    · exact ⟨h3, h5⟩
    · exact h2 q hq
theorem Mk.Is.enum (L : M.Law P t k e) (h : M.Is P k w b n f) : ∃ l, En f l ∧ l.length ≤ n := by
  obtain ⟨D, hown, hf, hok⟩ := h
  have hsz := hown.size_le
  obtain ⟨es, hD, hpw, _⟩ := hown.entries L.K
  obtain ⟨es', hD', hko⟩ := hown.keysOf
  obtain rfl : es = es' := by rw [hD] at hD'; simpa using hD'
  subst hD
  obtain ⟨l, h1, h2⟩ := pick_list (M := M) (f := f) (es := es) fun p hp => by
    obtain ⟨v, hv⟩ := hko p hp
    obtain ⟨x, hx, rfl⟩ := L.inv hv
    rw [L.key x hx] at hv
    have e := Option.some.inj hv
    have hh : Maps.has (DataW.map es) (M.kl x) = true := by
      rw [has_eq, List.any_eq_true]
      exact ⟨p, hp, by rw [← e]; exact WideAt.sameKey_self (L.keyLit hx)⟩
    rw [(hf x hx).1] at hh
    obtain ⟨s, hs⟩ := Option.isSome_iff_exists.1 hh
    exact ⟨x, s, hx, e, hs⟩
  refine ⟨l, ⟨?_, fun x s => ⟨fun hm => (h2 _ hm).2, fun hs => ?_⟩⟩, ?_⟩
  · have h3 : (es.map (·.1)).Pairwise (· ≠ ·) := List.pairwise_map.2 hpw
    rw [← h1] at h3
    exact List.pairwise_map.2 ((List.pairwise_map.1 h3).imp fun {a b} hne e => hne (by rw [e]))
  · have hx := hok x (by rw [hs]; rfl)
    have hh := (hf x hx).1
    rw [hs, has_eq, Option.isSome_some, List.any_eq_true] at hh
    obtain ⟨p, hp, hsk⟩ := hh
    have e := WideAt.sameKey_eq hsk
    have hm : M.kl x ∈ l.map (fun q => M.kl q.1) := by rw [h1, ← e]; exact List.mem_map.2 ⟨p, hp, rfl⟩
    obtain ⟨q, hq, hqe⟩ := List.mem_map.1 hm
    have e2 := L.klinj (h2 q hq).1 hx hqe
    have e3 := (h2 q hq).2
    rw [e2, hs] at e3
    obtain ⟨q1, q2⟩ := q
    simp only at e2 e3
    rw [e2, ← Option.some.inj e3] at hq
    exact hq
  · have : l.length = es.length := by have := congrArg List.length h1; simpa using this
    rw [this]
    exact hsz

/-- what has been met, summed up -/
def todo (left : κ → Bool) (g : κ × ε → Int) (l : List (κ × ε)) : Int := (l.map fun p => if left p.1 then 0 else g p).sum
theorem todo_none {left : κ → Bool} {g : κ × ε → Int} : ∀ {l : List (κ × ε)}, (∀ p ∈ l, left p.1 = true) → todo left g l = 0
  | [], _ => rfl
  | p :: l, h => by
    have := todo_none (g := g) fun q hq => h q (List.mem_cons_of_mem p hq)
    unfold todo at *
    rw [List.map_cons, List.sum_cons, if_pos (h p (List.mem_cons_self ..)), this]; rfl
theorem todo_all {left : κ → Bool} {g : κ × ε → Int} {l : List (κ × ε)} (h : ∀ p ∈ l, left p.1 = false) : todo left g l = (l.map g).sum := by
  unfold todo
  congr 1
  exact List.map_congr_left fun p hp => by rw [h p hp]; rfl
theorem todo_congr {left left' : κ → Bool} {g : κ × ε → Int} {l : List (κ × ε)} (h : ∀ p ∈ l, left p.1 = left' p.1) : todo left g l = todo left' g l := by
  unfold todo
  congr 1
  exact List.map_congr_left fun p hp => by rw [h p hp]
theorem todo_step_aux [DecidableEq κ] {left : κ → Bool} {g : κ × ε → Int} {x : κ} {c : ε} (hl : left x = true) : ∀ {l : List (κ × ε)}, (l.map (·.1)).Nodup → (x, c) ∈ l → todo (fun z => left z && !decide (z = x)) g l = todo left g l + g (x, c)
  | [], _, h => by cases h
  | p :: l, hn, h => by
    rw [List.map_cons, List.nodup_cons] at hn
    have split : ∀ lf : κ → Bool, todo lf g (p :: l) = (if lf p.1 then 0 else g p) + todo lf g l := fun lf => by unfold todo; rw [List.map_cons, List.sum_cons]
    rw [split, split]
    by_cases e : p.1 = x
    · have hp : p = (x, c) := by
        rcases List.mem_cons.1 h with h | h
        · exact h.symm
        · exact absurd (List.mem_map.2 ⟨_, h, rfl⟩) (by rw [e] at hn; exact hn.1)
      subst hp
      have : todo (fun z => left z && !decide (z = x)) g l = todo left g l := todo_congr fun q hq => by
        have : q.1 ≠ x := fun e => hn.1 (by rw [← e]; exact List.mem_map.2 ⟨q, hq, rfl⟩)
        simp [this]
      rw [this]
      simp [hl]
      omega
    · have hm : (x, c) ∈ l := by
        rcases List.mem_cons.1 h with h | h
        · exact absurd (by rw [← h]) e
        · exact h
      rw [todo_step_aux hl hn.2 hm]
      simp [e]
      omega
theorem todo_step [DecidableEq κ] {left : κ → Bool} {g : κ × ε → Int} {x : κ} {c : ε} {l : List (κ × ε)} (h : En f l) (hx : f x = some c) (hl : left x = true) : todo (fun z => left z && !decide (z = x)) g l = todo left g l + g (x, c) :=
  todo_step_aux hl h.1 ((h.2 x c).2 hx)
theorem todo_bound {left : κ → Bool} {g : κ × ε → Int} {B : Int} (hB : 0 ≤ B) : ∀ {l : List (κ × ε)}, (∀ p ∈ l, 0 ≤ g p ∧ g p ≤ B) → 0 ≤ todo left g l ∧ todo left g l ≤ B * l.length
  | [], _ => by unfold todo; simp
  | p :: l, h => by
    obtain ⟨h1, h2⟩ := todo_bound (left := left) hB fun q hq => h q (List.mem_cons_of_mem p hq)
    obtain ⟨h3, h4⟩ := h p (List.mem_cons_self ..)
    have split : todo left g (p :: l) = (if left p.1 then 0 else g p) + todo left g l := by unfold todo; rw [List.map_cons, List.sum_cons]
    rw [split, List.length_cons]
    have : B * ((l.length + 1 : Nat) : Int) = B * (l.length : Int) + B := by rw [Int.natCast_add, Int.mul_add]; simp
    rw [this]
    split <;> omega
theorem sum_perm {α : Type} {g : α → Int} {l l' : List α} (h : l.Perm l') : (l.map g).sum = (l'.map g).sum := by
  induction h with
  | nil => rfl
  | cons a _ ih => simp only [List.map_cons, List.sum_cons, ih]
  | swap a b l => simp only [List.map_cons, List.sum_cons]; omega
  | trans _ _ h1 h2 => exact h1.trans h2
end
end Go.Proofs.Ythpompgcnemanaa.G
