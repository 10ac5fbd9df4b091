/- Maps whose keys are of any kind that a claim reads (structs too): plain lists of pairs with keys that differ; the steps of a walk. -/
import Derived.Test.YthkdmpalhdifbaaGreatDoorEncK
set_option linter.unusedVariables false
set_option linter.unusedSimpArgs false
namespace Go.Proofs.YthkdmpalhdifbaaGreatDoor
open Go.RowKit Go.Maps
open Go.WideShapes (sorted_perm)

/-! ### The plain lists -/
section
variable {κ β : Type} [DecidableEq κ]
def delG (k : κ) (L : List (κ × β)) : List (κ × β) := L.filter fun p => !decide (p.1 = k)
def putG (k : κ) (v : β) (L : List (κ × β)) : List (κ × β) := (k, v) :: delG k L
def getG (k : κ) (L : List (κ × β)) : Option β := (L.find? fun p => decide (p.1 = k)).map (·.2)
/-- The keys differ. -/
def Dst (L : List (κ × β)) : Prop := L.Pairwise fun p q => p.1 ≠ q.1
theorem dst_del {k : κ} {L : List (κ × β)} (h : Dst L) : Dst (delG k L) := List.Pairwise.filter _ h
theorem mem_delG {k : κ} {L : List (κ × β)} {p : κ × β} : p ∈ delG k L ↔ p ∈ L ∧ p.1 ≠ k := by simp [delG]
theorem dst_put {k : κ} {v : β} {L : List (κ × β)} (h : Dst L) : Dst (putG k v L) :=
  List.pairwise_cons.2 ⟨fun p hp => (mem_delG.1 hp).2.symm, dst_del h⟩
theorem mem_putG {k : κ} {v : β} {L : List (κ × β)} {p : κ × β} : p ∈ putG k v L ↔ p = (k, v) ∨ p ∈ L ∧ p.1 ≠ k := by unfold putG; rw [List.mem_cons, mem_delG]
theorem getG_mem {k : κ} {v : β} {L : List (κ × β)} (h : getG k L = some v) : (k, v) ∈ L := by
  unfold getG at h
  cases hf : L.find? (fun p => decide (p.1 = k)) with
  | none => rw [hf] at h; cases h
  | some p =>
    rw [hf] at h
    simp at h
    have h1 := List.find?_some hf
    have h2 := List.mem_of_find?_eq_some hf
    simp at h1
    subst h
    subst h1
    exact h2
theorem getG_of_mem {k : κ} {v : β} : ∀ {L : List (κ × β)}, Dst L → (k, v) ∈ L → getG k L = some v
  | y :: r, h, hm => by
    have h1 := List.pairwise_cons.1 h
    unfold getG
    rw [List.find?_cons]
    rcases List.mem_cons.1 hm with rfl | hm
    · simp
    · have hne : y.1 ≠ k := h1.1 _ hm
      rw [decide_eq_false hne]
      exact getG_of_mem h1.2 hm
theorem getG_none {k : κ} {L : List (κ × β)} : getG k L = none ↔ ∀ p ∈ L, p.1 ≠ k := by
  unfold getG
  rw [Option.map_eq_none_iff, List.find?_eq_none]
  simp
theorem getG_put {k j : κ} {v : β} {L : List (κ × β)} (h : Dst L) : getG j (putG k v L) = if j = k then some v else getG j L := by
  by_cases e : j = k
  · subst e
    rw [if_pos rfl]
    exact getG_of_mem (dst_put h) (mem_putG.2 (.inl rfl))
  · rw [if_neg e]
    cases hg : getG j L with
    | none =>
      rw [getG_none] at hg ⊢
      intro p hp
      rcases mem_putG.1 hp with rfl | ⟨hp, _⟩
      · exact fun h => e h.symm
      · exact hg p hp
    | some u => exact getG_of_mem (dst_put h) (mem_putG.2 (.inr ⟨getG_mem hg, e⟩))
end

/-! ### In memory -/
/-- How a key lies in memory, and how a claim reads it. -/
structure KeyC (P : Program) (k : TypeId) (κ : Type) [DecidableEq κ] where
  enc : κ → Value
  lit : κ → Lit
  ok : κ → Prop
  key : ∀ x, ok x → keyOf P k (enc x) = some (lit x)
  inj : ∀ x y, enc x = enc y → x = y
section
variable {κ β : Type} [DecidableEq κ] {P : Program} {k : TypeId} (C : KeyC P k κ) (f : β → Value)
def rowG (L : List (κ × β)) : List (Lit × DataW Value) := L.map fun p => (C.lit p.1, .held (f p.2))
def datG (L : List (κ × β)) : DataW Value := .map ((rowG C f L).foldr DataW.insert [])
variable {C f}
theorem lit_inj (K : Keyed P k) {x y : κ} (hx : C.ok x) (hy : C.ok y) (h : C.lit x = C.lit y) : x = y :=
  C.inj _ _ (K.inj (C.key x hx) (h ▸ C.key y hy))
theorem rowG_keys {L : List (κ × β)} (hok : ∀ p ∈ L, C.ok p.1) : Keys (KeysOf P k) (rowG C f L) := fun q hq => by
  obtain ⟨p, hp, rfl⟩ := List.mem_map.1 hq
  exact ⟨_, C.key p.1 (hok p hp)⟩
theorem rowG_dst (K : Keyed P k) {L : List (κ × β)} (h : Dst L) (hok : ∀ p ∈ L, C.ok p.1) : (rowG C f L).Pairwise (fun p q => p.1 ≠ q.1) := by
  unfold rowG
  rw [List.pairwise_map]
  exact h.imp_of_mem fun {a b} ha hb hne e => hne (lit_inj K (hok a ha) (hok b hb) e)
theorem datG_size (L : List (κ × β)) : Maps.size (datG C f L) = L.length := by unfold datG; rw [size_eq, length_sorted]; simp [rowG]
theorem find_perm {α : Type} {p : α → Bool} : ∀ {l l' : List α}, l.Perm l' → (∀ a ∈ l, ∀ b ∈ l, p a = true → p b = true → a = b) → l.find? p = l'.find? p := by
  intro l l' h hu
  cases h1 : l.find? p with
  | none =>
    symm
    rw [List.find?_eq_none] at h1 ⊢
    exact fun x hx => h1 x (h.mem_iff.2 hx)
  | some a =>
    have ha := List.mem_of_find?_eq_some h1
    have hpa := List.find?_some h1
    cases h2 : l'.find? p with
    | none => rw [List.find?_eq_none] at h2; exact absurd hpa (h2 a (h.mem_iff.1 ha))
    | some b => rw [hu a ha b (h.mem_iff.2 (List.mem_of_find?_eq_some h2)) hpa (List.find?_some h2)]
theorem datG_find (K : Keyed P k) {L : List (κ × β)} (h : Dst L) (hok : ∀ p ∈ L, C.ok p.1) (x : κ) (hx : C.ok x) :
    ((rowG C f L).foldr DataW.insert []).find? (fun p => p.1.sameKey (C.lit x)) = (getG x L).map fun v => (C.lit x, .held (f v)) := by
  have hk : WideAt.IsKeyLit (C.lit x) := K.key (C.key x hx)
  have hu : ∀ a ∈ rowG C f L, ∀ b ∈ rowG C f L, a.1.sameKey (C.lit x) = true → b.1.sameKey (C.lit x) = true → a = b := by
    intro a ha b hb e1 e2
    obtain ⟨p, hp, rfl⟩ := List.mem_map.1 ha
    obtain ⟨q, hq, rfl⟩ := List.mem_map.1 hb
    have i1 := lit_inj K (hok p hp) hx (WideAt.sameKey_eq e1)
    have i2 := lit_inj K (hok q hq) hx (WideAt.sameKey_eq e2)
    have g1 := getG_of_mem h (show (p.1, p.2) ∈ L from hp)
    have g2 := getG_of_mem h (show (q.1, q.2) ∈ L from hq)
    rw [i1] at g1
    rw [i2, g1] at g2
    simp only [i1, i2, Option.some.inj g2]
  have hsp := sorted_perm (rowG C f L)
  rw [← find_perm hsp.symm hu]
  unfold rowG
  clear hu hsp
  induction L with
  | nil => rfl
  | cons y r ih =>
    have h1 := List.pairwise_cons.1 h
    have hy := hok y (by simp)
    rw [List.map_cons, List.find?_cons]
    by_cases e : y.1 = x
    · subst e
      rw [show (C.lit y.1).sameKey (C.lit y.1) = true from WideAt.sameKey_self hk, getG_of_mem h (show (y.1, y.2) ∈ y :: r by simp)]
      rfl
    · have e2 : (C.lit y.1).sameKey (C.lit x) = false := by
        rw [Bool.eq_false_iff]
        intro hs
        exact e (lit_inj K hy hx (WideAt.sameKey_eq hs))
      rw [e2, ih h1.2 fun p hp => hok p (by simp [hp])]
      unfold getG
      rw [List.find?_cons, decide_eq_false e]
theorem datG_atKey (K : Keyed P k) {L : List (κ × β)} (h : Dst L) (hok : ∀ p ∈ L, C.ok p.1) (x : κ) (hx : C.ok x) (z : DataW Value) :
    (datG C f L).atKey (C.lit x) z = ((getG x L).map fun v => DataW.held (f v)).getD z := by
  have h1 := datG_find (f := f) K h hok x hx
  unfold datG DataW.atKey
  simp only
  rw [h1]
  cases getG x L <;> rfl
theorem datG_has (K : Keyed P k) {L : List (κ × β)} (h : Dst L) (hok : ∀ p ∈ L, C.ok p.1) (x : κ) (hx : C.ok x) : Maps.has (datG C f L) (C.lit x) = (getG x L).isSome := by
  have h1 := datG_find (f := f) K h hok x hx
  unfold datG
  rw [has_eq]
  cases hg : getG x L with
  | none =>
    rw [hg] at h1
    simp only [Option.map_none, List.find?_eq_none] at h1
    simp only [Option.isSome_none, List.any_eq_false]
    exact h1
  | some v =>
    rw [hg] at h1
    simp only [Option.map_some] at h1
    simp only [Option.isSome_some, List.any_eq_true]
    exact ⟨_, List.mem_of_find?_eq_some h1, List.find?_some (p := fun p : Lit × DataW Value => p.1.sameKey (C.lit x)) h1⟩
theorem datG_put (K : Keyed P k) {L : List (κ × β)} (h : Dst L) (hok : ∀ p ∈ L, C.ok p.1) (x : κ) (hx : C.ok x) (v : β) :
    (datG C f L).put (C.lit x) (.held (f v)) = datG C f (putG x v L) := by
  have hp : (rowG C f (putG x v L)).Perm ((C.lit x, .held (f v)) :: (rowG C f L).filter (Go.ChangeMaps.notKey (C.lit x))) := by
    unfold rowG putG delG
    rw [List.map_cons, List.filter_map]
    refine List.Perm.of_eq (congrArg _ (congrArg _ (List.filter_congr fun p hp => ?_)))
    simp only [Function.comp_apply, Go.ChangeMaps.notKey]
    congr 1
    rw [Bool.eq_iff_iff]
    simp only [decide_eq_true_eq]
    constructor
    · intro e; subst e; exact WideAt.sameKey_self (K.key (C.key p.1 (hok p hp)))
    · intro e; exact lit_inj K (hok p hp) hx (WideAt.sameKey_eq e)
  have := sorted_put K.one ⟨_, C.key x hx⟩ (rowG_keys hok) (rowG_dst (f := f) K h hok) hp
  unfold datG DataW.put
  simp only
  rw [this]
  rfl

/-- BLOCK b IS A MAP WITH THE KEYS AND VALUES OF L. -/
structure MapG (C : KeyC P k κ) (f : β → Value) (w : World) (b : Nat) (L : List (κ × β)) : Prop where
  own : w.ownsMap P k RV b L.length (datG C f L)
  dst : Dst L
  ok : ∀ p ∈ L, C.ok p.1
namespace MapG
variable {w w' : World} {b n : Nat} {L : List (κ × β)}
theorem of_own (h : w.ownsMap P k RV b n (datG C f L)) (h1 : Dst L) (h2 : ∀ p ∈ L, C.ok p.1) : MapG C f w b L :=
  ⟨by have := owns_tight h; rwa [datG_size] at this, h1, h2⟩
theorem lt (h : MapG C f w b L) : b < w.heap.size := World.ownsMap.lt h.own
theorem of_block (h : MapG C f w b L) (e : w'.heap[b]? = w.heap[b]?) : MapG C f w' b L := by
  obtain ⟨⟨es, clock, hb, F, hs, hD⟩, h1, h2⟩ := h
  exact ⟨⟨es, clock, e.trans hb, F, hs, hD⟩, h1, h2⟩
theorem fr {S : Nat → Prop} (h : MapG C f w b L) (k : Fr S w w') (hS : ¬ S b) : MapG C f w' b L := h.of_block (k.block b h.lt hS)
theorem below (h : MapG C f w b L) (k : Below w.heap.size w w') : MapG C f w' b L := h.fr (Fr.of_below k : Fr S0 w w') (fun h => h)
theorem drew (h : MapG C f w b L) : MapG C f w.drew b L := h.of_block rfl
theorem alloc (h : MapG C f w b L) (o : Obj) : MapG C f (w.alloc o) b L := h.of_block (Below.heap_alloc w o b h.lt)
theorem block (h : MapG C f w b L) : ∃ es clock, w.heap[b]? = some (.map es clock) := by
  obtain ⟨es, clock, hb, _⟩ := h.own
  exact ⟨es, clock, hb⟩
theorem made (C : KeyC P k κ) (f : β → Value) (w : World) : MapG C f (w.alloc (.map #[] 0)) w.heap.size [] := ⟨World.ownsMap_made w P k RV, List.Pairwise.nil, by simp⟩
end MapG
end

section
variable {κ β : Type} [DecidableEq κ] {P : Program} {k : TypeId} {C : KeyC P k κ} {f : β → Value} (w : World) {ops : Array Oper} {rest : List Oper} {o : Oper} {a : Act} {Q : Exit → Act → World → Prop}

/-- 'v, ok := m[k]'. -/
theorem wpList_lookG (K : Keyed P k) (hg : o.guard = none) (m x : Operand) (t : TypeId) (hop : o.op = Op.lookup t m x true) (e : TypeId) (ht : P.underlying t = some (.map k e)) (z : Value) (hz : (zeroValue e).run P w = .ok z w) (b : Nat) (L : List (κ × β))
    (hm : a.eval m = .map (some b)) (hown : MapG C f w b L) (i : κ) (hx : a.eval x = C.enc i) (hi : C.ok i)
    (hK : wpList P ops Q rest (a.put o.dst (.tuple #[((getG i L).map f).getD z, .bool (getG i L).isSome])) w) :
    wpList P ops Q (o :: rest) a w :=
  wpList_lookup_own_ok w hg m x t hop k e K ht RV hz (.held z) [] rfl b _ (datG C f L) hm hown.own (C.enc i) (C.lit i) hx (C.key i hi) (fun v ps hv => by
    have h1 := datG_atKey (f := f) K hown.dst hown.ok i hi (.held z)
    have h2 : (datG C f L).atKey (C.lit i) (.held z) = .held (((getG i L).map f).getD z) := by rw [h1]; cases getG i L <;> rfl
    have := held_eq hv h2
    subst this
    rw [datG_has K hown.dst hown.ok i hi]
    exact hK)

/-- 'm[k]'. -/
theorem wpList_lookG1 (K : Keyed P k) (hg : o.guard = none) (m x : Operand) (t : TypeId) (hop : o.op = Op.lookup t m x false) (e : TypeId) (ht : P.underlying t = some (.map k e)) (z : Value) (hz : (zeroValue e).run P w = .ok z w) (b : Nat) (L : List (κ × β))
    (hm : a.eval m = .map (some b)) (hown : MapG C f w b L) (i : κ) (hx : a.eval x = C.enc i) (hi : C.ok i)
    (hK : wpList P ops Q rest (a.put o.dst (((getG i L).map f).getD z)) w) :
    wpList P ops Q (o :: rest) a w := by
  refine wpList_plain hg fun K' hK' => ?_
  obtain ⟨v, ps, hrun, hv⟩ := World.ownsMap.lookup hown.own K ht hz (zd := .held z) (zp := []) rfl (C.key i hi)
  have h1 := datG_atKey (f := f) K hown.dst hown.ok i hi (.held z)
  have h2 : (datG C f L).atKey (C.lit i) (.held z) = .held (((getG i L).map f).getD z) := by rw [h1]; cases getG i L <;> rfl
  have := held_eq hv h2
  subst this
  unfold Oper.wp
  simp [execOp, hop, hm, hx, hrun, Result.andThen]
  exact hK' _ _ hK

/-- .. as a run: for a drawn region, or the walk's own step. -/
theorem lookG_run (K : Keyed P k) (t e : TypeId) (ht : P.underlying t = some (.map k e)) (z : Value) (hz : (zeroValue e).run P w = .ok z w) (b : Nat) (L : List (κ × β)) (hown : MapG C f w b L) (i : κ) (hi : C.ok i) :
    (Instr.lookup t (.map (some b)) (C.enc i) false).run P w = .ok (((getG i L).map f).getD z) w := by
  obtain ⟨v, ps, hrun, hv⟩ := World.ownsMap.lookup hown.own K ht hz (zd := .held z) (zp := []) rfl (C.key i hi)
  have h1 := datG_atKey (f := f) K hown.dst hown.ok i hi (.held z)
  have h2 : (datG C f L).atKey (C.lit i) (.held z) = .held (((getG i L).map f).getD z) := by rw [h1]; cases getG i L <;> rfl
  have := held_eq hv h2
  subst this
  exact hrun

/-- 'm[k] = v'. -/
theorem wpList_updG (K : Keyed P k) (hg : o.guard = none) (m x v : Operand) (t : TypeId) (hop : o.op = Op.mapUpdate t m x v) (e : TypeId) (ht : P.underlying t = some (.map k e)) (b : Nat) (L : List (κ × β))
    (hm : a.eval m = .map (some b)) (hown : MapG C f w b L) (hn : L.length < 1000000000) (i : κ) (val : β) (hx : a.eval x = C.enc i) (hv : a.eval v = f val) (hi : C.ok i)
    (hK : ∀ w', MapG C f w' b (putG i val L) → w.grownBy w' (some b) → wpList P ops Q rest (a.put o.dst undef) w') :
    wpList P ops Q (o :: rest) a w :=
  wpList_mapUpdate_own w hg m x v t hop k e K ht RV b _ (datG C f L) hm hown.own (by unfold maxLen; omega) (C.enc i) (f val) (C.lit i) hx hv (C.key i hi) (.held (f val)) [] rfl
    (fun w' h1 h2 => hK w' (by
      rw [datG_put K hown.dst hown.ok i hi] at h1
      refine MapG.of_own h1 (dst_put hown.dst) fun p hp => ?_
      rcases mem_putG.1 hp with rfl | ⟨hp, _⟩
      · exact hi
      · exact hown.ok p hp) h2)

/-- The step of a range over such a map. -/
theorem wpList_nextG (K : Keyed P k) (hg : o.guard = none) (it : Operand) (hop : o.op = Op.next it false)
    (b r n : Nat) (L : List (κ × β)) (hD : Dst L) (hok : ∀ p ∈ L, C.ok p.1) (left : Lit → Bool) (cnt : Nat) (hit : a.eval it = .pointer (some ⟨r, 0, none⟩)) (h : w.ranges P k RV b r n (datG C f L) left cnt)
    (hDone : cnt = 0 → (∀ kl, left kl = false) → wpList P ops Q rest (a.put o.dst (.tuple #[.bool false])) w)
    (hMore : ∀ (x : κ) (e : β) (w' : World) (cnt' : Nat), C.ok x → left (C.lit x) = true → getG x L = some e → w'.ranges P k RV b r n (datG C f L) (fun z => left z && !z.sameKey (C.lit x)) cnt' → cnt' < cnt →
      w.grownBy w' (some r) → w'.heap.size = w.heap.size → (Instr.entry (.pointer (some ⟨r, 0, none⟩))).run P w' = .ok (.tuple #[C.enc x, f e]) w' → wpList P ops Q rest (a.put o.dst (.tuple #[.bool true, C.enc x, f e])) w') :
    wpList P ops Q (o :: rest) a w := by
  refine wpList_plain hg fun K' hK' => ?_
  unfold Oper.wp
  rcases h.next K o.type with ⟨h0, hl, hrun⟩ | ⟨key, v, kl, y, w', cnt', hkey, hlk, hv, hat, hrun, hrg, hlt, hgr, hsz, hen⟩
  · simp [execOp, hop, hit, hrun, Result.andThen]
    exact hK' _ _ (hDone h0 hl)
  · have hy : y = (.held v, []) := by simpa [RV] using hv.symm
    subst hy
    have h1 := hat (.held (.bool true))
    have h2 := hat (.held (.bool false))
    obtain ⟨p, hp, hpk⟩ : ∃ p ∈ L, (C.lit p.1).sameKey kl = true := by
      refine Classical.byContradiction fun hno => ?_
      have hnone : ((rowG C f L).foldr DataW.insert []).find? (fun q => q.1.sameKey kl) = none := by
        rw [List.find?_eq_none]
        intro q hq
        obtain ⟨p, hp, rfl⟩ := List.mem_map.1 ((sorted_perm (rowG C f L)).mem_iff.1 hq)
        exact fun hs => hno ⟨p, hp, hs⟩
      unfold datG DataW.atKey at h1 h2
      simp only at h1 h2
      rw [hnone] at h1 h2
      rw [← h1] at h2
      simp at h2
    have hkl : C.lit p.1 = kl := WideAt.sameKey_eq hpk
    have hok1 := hok p hp
    have hke : key = C.enc p.1 := K.inj hkey (hkl ▸ C.key p.1 hok1)
    have hgp := getG_of_mem hD (show (p.1, p.2) ∈ L from hp)
    rw [← hkl, datG_atKey K hD hok p.1 hok1, hgp] at h1
    simp at h1
    subst h1 hke hkl
    simp [execOp, hop, hit, hrun, Result.andThen]
    exact hK' _ _ (hMore p.1 p.2 w' cnt' hok1 hlk hgp hrg hlt hgr hsz hen)
end
end Go.Proofs.YthkdmpalhdifbaaGreatDoor
