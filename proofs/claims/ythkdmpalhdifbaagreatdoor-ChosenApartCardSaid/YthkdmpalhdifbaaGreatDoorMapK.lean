/- Maps with int keys as sorted lists of pairs; the walk's laws on them (over any program). -/
import Derived.Test.YthkdmpalhdifbaaGreatDoorProg
import Derived.WalkKit
import Derived.Maps.OwnSet
import Derived.Maps.RangeWalk
import Derived.Maps.Ext
import Derived.Lib.Hide
set_option linter.unusedVariables false
set_option linter.unusedSimpArgs false
namespace Go.Proofs.YthkdmpalhdifbaaGreatDoor
open Go.RowKit Go.Maps

/-! ### The plain lists -/
/-- A pair laid in ahead of the first one with a greater key. -/
def insS {β : Type} (x : Int × β) : List (Int × β) → List (Int × β)
  | [] => [x]
  | y :: r => if x.1 < y.1 then x :: y :: r else y :: insS x r
def del {β : Type} (k : Int) (L : List (Int × β)) : List (Int × β) := L.filter fun p => p.1 != k
def put {β : Type} (k : Int) (v : β) (L : List (Int × β)) : List (Int × β) := insS (k, v) (del k L)
def get {β : Type} (k : Int) (L : List (Int × β)) : Option β := (L.find? fun p => p.1 == k).map (·.2)
/-- The keys increase. -/
def Srt {β : Type} (L : List (Int × β)) : Prop := L.Pairwise fun p q => p.1 < q.1

section
variable {β : Type}
theorem mem_insS {x p : Int × β} : ∀ {L : List (Int × β)}, p ∈ insS x L ↔ p = x ∨ p ∈ L
  | [] => by simp [insS]
  | y :: r => by
    unfold insS
    split
    · simp
    · simp [mem_insS (L := r)]; constructor
      · rintro (h | h | h) <;> simp [h]
      · rintro (h | h | h) <;> simp [h]
theorem length_insS {x : Int × β} : ∀ {L : List (Int × β)}, (insS x L).length = L.length + 1
  | [] => rfl
  | y :: r => by unfold insS; split <;> simp [length_insS (L := r)]
theorem srt_insS {x : Int × β} : ∀ {L : List (Int × β)}, Srt L → (∀ p ∈ L, p.1 ≠ x.1) → Srt (insS x L)
  | [], _, _ => by simp [insS, Srt]
  | y :: r, h, hn => by
    have h1 := List.pairwise_cons.1 h
    have hy := hn y (by simp)
    unfold insS
    split
    · rename_i hlt
      refine List.pairwise_cons.2 ⟨fun p hp => ?_, h⟩
      rcases List.mem_cons.1 hp with rfl | hp
      · exact hlt
      · have := h1.1 p hp; omega
    · rename_i hge
      refine List.pairwise_cons.2 ⟨fun p hp => ?_, srt_insS h1.2 fun p hp => hn p (by simp [hp])⟩
      rcases mem_insS.1 hp with rfl | hp
      · omega
      · exact h1.1 p hp
theorem srt_del {k : Int} {L : List (Int × β)} (h : Srt L) : Srt (del k L) := List.Pairwise.filter _ h
theorem mem_del {k : Int} {L : List (Int × β)} {p : Int × β} : p ∈ del k L ↔ p ∈ L ∧ p.1 ≠ k := by simp [del]
theorem srt_put {k : Int} {v : β} {L : List (Int × β)} (h : Srt L) : Srt (put k v L) := srt_insS (srt_del h) fun p hp => (mem_del.1 hp).2
theorem mem_put {k : Int} {v : β} {L : List (Int × β)} {p : Int × β} : p ∈ put k v L ↔ p = (k, v) ∨ p ∈ L ∧ p.1 ≠ k := by unfold put; rw [mem_insS, mem_del]
theorem get_mem {k : Int} {v : β} {L : List (Int × β)} (h : get k L = some v) : (k, v) ∈ L := by
  unfold get at h
  obtain ⟨p, hp, rfl⟩ := Option.map_eq_some_iff.1 h
  have h1 := List.mem_of_find?_eq_some hp
  have h2 : p.1 = k := by simpa using List.find?_some hp
  rw [← h2]; exact h1
theorem get_of_mem {k : Int} {v : β} : ∀ {L : List (Int × β)}, Srt L → (k, v) ∈ L → get k L = some v
  | [], _, h => by simp at h
  | y :: r, hs, h => by
    have h1 := List.pairwise_cons.1 hs
    rcases List.mem_cons.1 h with rfl | hm
    · simp [get]
    · have : y.1 < k := h1.1 _ hm
      have hne : (y.1 == k) = false := by simp; omega
      unfold get
      rw [List.find?_cons, hne]
      exact get_of_mem h1.2 hm
theorem get_none {k : Int} {L : List (Int × β)} : get k L = none ↔ ∀ p ∈ L, p.1 ≠ k := by
  unfold get
  rw [Option.map_eq_none_iff, List.find?_eq_none]
  constructor
  · intro h p hp; simpa using h p hp
  · intro h p hp; simpa using h p hp
theorem get_put_same {k : Int} {v : β} {L : List (Int × β)} (h : Srt L) : get k (put k v L) = some v := get_of_mem (srt_put h) (mem_put.2 (.inl rfl))
theorem get_put_other {k k' : Int} {v : β} {L : List (Int × β)} (h : Srt L) (hne : k' ≠ k) : get k' (put k v L) = get k' L := by
  cases hg : get k' L with
  | some u => exact get_of_mem (srt_put h) (mem_put.2 (.inr ⟨get_mem hg, hne⟩))
  | none =>
    refine get_none.2 fun p hp => ?_
    rcases mem_put.1 hp with rfl | ⟨hp, _⟩
    · exact fun e => hne e.symm
    · exact get_none.1 hg p hp
theorem get_del_same {k : Int} {L : List (Int × β)} : get k (del k L) = none := get_none.2 fun p hp => (mem_del.1 hp).2
theorem get_del_other {k k' : Int} {L : List (Int × β)} (h : Srt L) (hne : k' ≠ k) : get k' (del k L) = get k' L := by
  cases hg : get k' L with
  | some u => exact get_of_mem (srt_del h) (mem_del.2 ⟨get_mem hg, hne⟩)
  | none => exact get_none.2 fun p hp => get_none.1 hg p (mem_del.1 hp).1
theorem del_of_none {k : Int} {L : List (Int × β)} (h : get k L = none) : del k L = L := List.filter_eq_self.2 fun p hp => by simpa using get_none.1 h p hp
/-- Two sorted lists with the same lookups are one. -/
theorem srt_ext {L M : List (Int × β)} (hL : Srt L) (hM : Srt M) (h : ∀ p, p ∈ L ↔ p ∈ M) : L = M := by
  have hp : L.Perm M := by
    refine (List.perm_ext_iff_of_nodup ?_ ?_).2 h
    · exact hL.imp fun {a b} hab e => by subst e; omega
    · exact hM.imp fun {a b} hab e => by subst e; omega
  exact hp.eq_of_pairwise (fun a b _ _ h1 h2 => by omega) hL hM
end

/-! ### In memory -/
abbrev RV (v : Value) : Option (DataW Value × List MemPlace) := some (.held v, [])
def dat (L : List (Int × Value)) : DataW Value := .map (L.map fun p => (.int .i64 p.1, .held p.2))

theorem same_eq (a k : Int) : (Lit.int .i64 a).sameKey (.int .i64 k) = (a == k) := by
  simp only [Lit.sameKey, true_and]
  by_cases e : a = k <;> simp [e]
theorem dat_filter (k : Int) (L : List (Int × Value)) : (L.map fun p => ((Lit.int .i64 p.1, DataW.held p.2) : Lit × DataW Value)).filter (fun p => !p.1.sameKey (.int .i64 k)) = (del k L).map fun p => (.int .i64 p.1, .held p.2) := by
  unfold del
  rw [List.filter_map]
  congr 1
  refine List.filter_congr fun p _ => ?_
  simp only [Function.comp_apply, same_eq]
  rfl
theorem dat_insert (x : Int × Value) : ∀ L : List (Int × Value), DataW.insert (.int .i64 x.1, .held x.2) (L.map fun p => ((Lit.int .i64 p.1, DataW.held p.2) : Lit × DataW Value)) = (insS x L).map fun p => (.int .i64 p.1, .held p.2)
  | [] => rfl
  | y :: r => by
    simp only [List.map_cons, DataW.insert, Lit.before, insS, decide_eq_true_eq]
    split
    · rfl
    · rw [dat_insert x r]; rfl
theorem dat_put (k : Int) (v : Value) (L : List (Int × Value)) : (dat L).put (.int .i64 k) (.held v) = dat (put k v L) := by
  simp only [dat, DataW.put, dat_filter]
  rw [dat_insert (k, v)]
  rfl
theorem dat_del (k : Int) (L : List (Int × Value)) : (dat L).del (.int .i64 k) = dat (del k L) := by
  simp only [dat, DataW.del, dat_filter]
theorem dat_atKey (k : Int) (z : Value) : ∀ L : List (Int × Value), (dat L).atKey (.int .i64 k) (.held z) = .held ((get k L).getD z)
  | [] => rfl
  | y :: r => by
    have ih := dat_atKey k z r
    simp only [dat, DataW.atKey, List.map_cons, List.find?_cons, get, same_eq] at ih ⊢
    by_cases e : y.1 = k
    · simp [e]
    · have e2 : (y.1 == k) = false := by simpa using e
      rw [e2]
      exact ih
theorem dat_has (k : Int) : ∀ L : List (Int × Value), Maps.has (dat L) (.int .i64 k) = (get k L).isSome
  | [] => rfl
  | y :: r => by
    have ih := dat_has k r
    simp only [dat, has_eq, List.map_cons, List.any_cons, get, same_eq, List.find?_cons] at ih ⊢
    by_cases e : y.1 = k
    · simp [e]
    · have e2 : (y.1 == k) = false := by simpa using e
      rw [e2, Bool.false_or]
      exact ih
theorem dat_size (L : List (Int × Value)) : Maps.size (dat L) = L.length := by simp [dat, size_eq]

/-- BLOCK b IS A MAP WITH THE KEYS AND VALUES OF L. -/
def MapIs (P : Program) (k : TypeId) (w : World) (b : Nat) (L : List (Int × Value)) : Prop := w.ownsMap P k RV b L.length (dat L)

section
variable {P : Program} {k : TypeId} {w w' : World} {b n : Nat} {L : List (Int × Value)}
theorem owns_tight {D : DataW Value} (h : w.ownsMap P k RV b n D) : w.ownsMap P k RV b (Maps.size D) D := by
  obtain ⟨es, clock, hb, F, hs, hD⟩ := h
  refine ⟨es, clock, hb, F, ?_, hD⟩
  rw [hD, size_eq, length_sorted]
  simp
theorem MapIs.of (h : w.ownsMap P k RV b n (dat L)) : MapIs P k w b L := by
  have := owns_tight h
  rwa [dat_size] at this
theorem MapIs.lt (h : MapIs P k w b L) : b < w.heap.size := World.ownsMap.lt h
theorem MapIs.of_block (h : MapIs P k w b L) (e : w'.heap[b]? = w.heap[b]?) : MapIs P k w' b L := by
  obtain ⟨es, clock, hb, F, hs, hD⟩ := h
  exact ⟨es, clock, e.trans hb, F, hs, hD⟩
theorem MapIs.clone {b' : Nat} {es : Array MapEntry} {clock : Nat} (h : MapIs P k w b L) (hb : w.heap[b]? = some (.map es clock)) (hb' : w'.heap[b']? = some (.map es clock)) : MapIs P k w' b' L := by
  obtain ⟨es1, clock1, hb1, F, hs, hD⟩ := h
  rw [hb] at hb1
  cases hb1
  exact ⟨es, clock, hb', F, hs, hD⟩
theorem MapIs.block (h : MapIs P k w b L) : ∃ es clock, w.heap[b]? = some (.map es clock) := by
  obtain ⟨es, clock, hb, _⟩ := h
  exact ⟨es, clock, hb⟩
theorem MapIs.srt (h : MapIs P k w b L) (K : Keyed P k) : Srt L := by
  obtain ⟨es, he, hp, _⟩ := World.ownsMap.canon h K
  unfold dat at he
  cases he
  exact (List.pairwise_map.1 hp).imp fun {a c} hac => by simpa [Lit.before] using hac
theorem MapIs.made (w : World) (P : Program) (k : TypeId) : MapIs P k (w.alloc (.map #[] 0)) w.heap.size [] := World.ownsMap_made w P k RV
theorem held_eq {v u : Value} {ps : List MemPlace} {D : DataW Value} (h : RV v = some (D, ps)) (hD : D = .held u) : v = u := by
  subst hD
  simp [RV] at h
  exact h.1
end

section
variable {P : Program} (w : World) {ops : Array Oper} {rest : List Oper} {o : Oper} {a : Act} {Q : Exit → Act → World → Prop}

/-- 'v, ok := m[k]'. -/
theorem wpList_look (hg : o.guard = none) (m x : Operand) (t : TypeId) (hop : o.op = Op.lookup t m x true)
    (k e : TypeId) (hk : P.underlying k = some (.int .i64)) (ht : P.underlying t = some (.map k e)) (z : Value) (hz : (zeroValue e).run P w = .ok z w) (b : Nat) (L : List (Int × Value))
    (hm : a.eval m = .map (some b)) (hown : MapIs P k w b L) (i : Int) (hx : a.eval x = .int .i64 i) (hi : (Lit.int .i64 i).wf = true)
    (hK : wpList P ops Q rest (a.put o.dst (.tuple #[(get i L).getD z, .bool (get i L).isSome])) w) :
    wpList P ops Q (o :: rest) a w :=
  wpList_lookup_own_ok w hg m x t hop k e (int_keyed hk) ht RV hz (.held z) [] rfl b _ (dat L) hm hown (.int .i64 i) (.int .i64 i) hx (keyOf_int_mk hk hi) (fun v ps hv => by
    have := held_eq hv (dat_atKey i z L)
    subst this
    rw [dat_has]
    exact hK)

/-- 'm[k]'. -/
theorem wpList_look1 (hg : o.guard = none) (m x : Operand) (t : TypeId) (hop : o.op = Op.lookup t m x false)
    (k e : TypeId) (hk : P.underlying k = some (.int .i64)) (ht : P.underlying t = some (.map k e)) (z : Value) (hz : (zeroValue e).run P w = .ok z w) (b : Nat) (L : List (Int × Value))
    (hm : a.eval m = .map (some b)) (hown : MapIs P k w b L) (i : Int) (hx : a.eval x = .int .i64 i) (hi : (Lit.int .i64 i).wf = true)
    (hK : wpList P ops Q rest (a.put o.dst ((get i L).getD z)) w) :
    wpList P ops Q (o :: rest) a w := by
  refine wpList_plain hg fun K' hK' => ?_
  obtain ⟨v, ps, hrun, hv⟩ := World.ownsMap.lookup hown (int_keyed hk) ht hz (zd := .held z) (zp := []) rfl (keyOf_int_mk hk hi)
  have := held_eq hv (dat_atKey i z L)
  subst this
  unfold Oper.wp
  simp [execOp, hop, hm, hx, hrun, Result.andThen]
  exact hK' _ _ hK

/-- 'm[k] = v'. -/
theorem wpList_upd (hg : o.guard = none) (m x v : Operand) (t : TypeId) (hop : o.op = Op.mapUpdate t m x v)
    (k e : TypeId) (hk : P.underlying k = some (.int .i64)) (ht : P.underlying t = some (.map k e)) (b : Nat) (L : List (Int × Value))
    (hm : a.eval m = .map (some b)) (hown : MapIs P k w b L) (hn : L.length < 1000000000) (i : Int) (val : Value) (hx : a.eval x = .int .i64 i) (hv : a.eval v = val) (hi : (Lit.int .i64 i).wf = true)
    (hK : ∀ w', MapIs P k w' b (put i val L) → w.grownBy w' (some b) → wpList P ops Q rest (a.put o.dst undef) w') :
    wpList P ops Q (o :: rest) a w :=
  wpList_mapUpdate_own w hg m x v t hop k e (int_keyed hk) ht RV b _ (dat L) hm hown (by unfold maxLen; omega) (.int .i64 i) val (.int .i64 i) hx hv (keyOf_int_mk hk hi) (.held val) [] rfl
    (fun w' h1 h2 => hK w' (by rw [dat_put] at h1; exact MapIs.of h1) h2)

/-- 'delete(m, k)'. -/
theorem wpList_del (hg : o.guard = none) (m x : Operand) (t k : TypeId) (hop : o.op = Op.call { callee := Callee.builtin Builtin.delete, args := #[m, x], argTypes := #[t, k] })
    (e : TypeId) (hk : P.underlying k = some (.int .i64)) (ht : P.underlying t = some (.map k e)) (b : Nat) (L : List (Int × Value))
    (hm : a.eval m = .map (some b)) (hown : MapIs P k w b L) (i : Int) (hx : a.eval x = .int .i64 i) (hi : (Lit.int .i64 i).wf = true)
    (hK : ∀ w', MapIs P k w' b (del i L) → w.grownBy w' (some b) → w'.heap.size = w.heap.size → wpList P ops Q rest (a.put o.dst (.tuple #[])) w') :
    wpList P ops Q (o :: rest) a w :=
  wpList_delete_own w hg m x t k hop e (int_keyed hk) ht RV b _ (dat L) hm hown (.int .i64 i) (.int .i64 i) hx (keyOf_int_mk hk hi)
    (fun w' h1 h2 => hK w' (by rw [dat_del] at h1; exact MapIs.of h1) h2.grown (by obtain ⟨es, c, es', c', hb, rfl⟩ := h2; simp [Go.ChangeMaps.setBlock]))

/-- 'len(m)'. -/
theorem wpList_mlen (hg : o.guard = none) (m : Operand) (t : TypeId) (hop : o.op = Op.call { callee := Callee.builtin Builtin.len, args := #[m], argTypes := #[t] })
    (k e : TypeId) (ht : P.underlying t = some (.map k e)) (b : Nat) (L : List (Int × Value)) (hm : a.eval m = .map (some b)) (hown : MapIs P k w b L)
    (hK : wpList P ops Q rest (a.put o.dst (.int .i64 (L.length : Int))) w) :
    wpList P ops Q (o :: rest) a w :=
  wpList_len_own w hg m t hop k e ht RV b _ (dat L) hm hown (by rw [dat_size]; exact hK)
end
end Go.Proofs.YthkdmpalhdifbaaGreatDoor
