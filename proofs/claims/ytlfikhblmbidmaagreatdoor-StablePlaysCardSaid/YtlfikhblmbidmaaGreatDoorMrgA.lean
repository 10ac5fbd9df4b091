/- Laid together by gen/merge.py: MapK Frame WireP RecP FrameP EncK SlotsP Ballot RngW RngG RndP CrcA. -/
import Derived.Test.YtlfikhblmbidmaaGreatDoorProg
import Derived.WalkKit
import Derived.Maps.OwnSet
import Derived.Maps.RangeWalk
import Derived.Maps.Ext
import Derived.Lib.Hide
import Derived.Deep.OwnRows
import Derived.StillTailTactics
import Derived.Deep.QuietTactic
import Derived.BigQuiet
import Derived.WalkSpells
import Derived.RangeFuncBox
import Derived.Deep.RegionHeld3
import Derived.Handy
import Derived.Laws.ResultCell
import Derived.Laws.StructEq
import Derived.RangeFuncNested
import Derived.RangeFuncBound
import Derived.RangeFuncCalls
import Derived.RangeFuncLeaves
import Derived.Shelf.Abstract
import Derived.RangeFuncWrites
import Derived.Shelf.RegionOpen
import Derived.OrdersHeld
import Derived.OwnWalkIn
import Derived.Laws.BitsAll
import Derived.Laws.BitsAllLaws
import Derived.Lib.LaidTab
import Derived.Lib.SmallJoins
import Derived.Lib.AppendIntMem
set_option linter.all false
namespace Go.Proofs.YtlfikhblmbidmaaGreatDoor
open Go.RowKit Go.Maps
def insS {β : Type} (x : Int × β) : List (Int × β) → List (Int × β)
 | [] => [x]
 | y :: r => if x.1 < y.1 then x :: y :: r else y :: insS x r
def del {β : Type} (k : Int) (L : List (Int × β)) : List (Int × β) := L.filter fun p => p.1 != k
def put {β : Type} (k : Int) (v : β) (L : List (Int × β)) : List (Int × β) := insS (k, v) (del k L)
def get {β : Type} (k : Int) (L : List (Int × β)) : Option β := (L.find? fun p => p.1 == k).map (·.2)
def Srt {β : Type} (L : List (Int × β)) : Prop := L.Pairwise fun p q => p.1 < q.1
section
variable {β : Type}
theorem mem_insS {x p : Int × β} : ∀ {L : List (Int × β)}, p ∈ insS x L ↔ p = x ∨ p ∈ L
 | [] => by simp [insS]
 | y :: r => by
  unfold insS
  split
  ·simp
  ·simp [mem_insS (L := r)]; constructor
   ·rintro (h | h | h) <;> simp [h]
   ·rintro (h | h | h) <;> simp [h]
theorem srt_insS {x : Int × β} : ∀ {L : List (Int × β)}, Srt L → (∀ p ∈ L, p.1 ≠ x.1) → Srt (insS x L)
 | [], _, _ => by simp [insS, Srt]
 | y :: r, h, hn => by
  have h1 := List.pairwise_cons.1 h
  have hy := hn y (by simp)
  unfold insS
  split
  ·rename_i hlt
   refine List.pairwise_cons.2 ⟨fun p hp => ?_, h⟩
   rcases List.mem_cons.1 hp with rfl | hp
   ·exact hlt
   ·have := h1.1 p hp; omega
  ·rename_i hge
   refine List.pairwise_cons.2 ⟨fun p hp => ?_, srt_insS h1.2 fun p hp => hn p (by simp [hp])⟩
   rcases mem_insS.1 hp with rfl | hp
   ·omega
   ·exact h1.1 p hp
theorem srt_del {k : Int} {L : List (Int × β)} (h : Srt L) : Srt (del k L) := List.Pairwise.filter _ h
theorem mem_del {k : Int} {L : List (Int × β)} {p : Int × β} : p ∈ del k L ↔ p ∈ L ∧ p.1 ≠ k := by simp [del]
theorem srt_put {k : Int} {v : β} {L : List (Int × β)} (h : Srt L) : Srt (put k v L) := srt_insS (srt_del h) fun p hp => (mem_del.1 hp).2
theorem mem_put {k : Int} {v : β} {L : List (Int × β)} {p : Int × β} : p ∈ put k v L ↔ p = (k, v) ∨ p ∈ L ∧ p.1 ≠ k := by unfold put; rw [mem_insS, mem_del]
theorem get_mem {k : Int} {v : β} {L : List (Int × β)} (h : get k L = some v) : (k, v) ∈ L := by
 unfold get at h
 obtain ⟨p, hp, rfl⟩ := Option.map_eq_some_iff.1 h
 have h1 := List.mem_of_find?_eq_some hp
 have h2 : p.1 = k := by simpa using List.find?_some hp
 rw [← h2]; exact h1
theorem get_of_mem {k : Int} {v : β} : ∀ {L : List (Int × β)}, Srt L → (k, v) ∈ L → get k L = some v
 | [], _, h => by simp at h
 | y :: r, hs, h => by
  have h1 := List.pairwise_cons.1 hs
  rcases List.mem_cons.1 h with rfl | hm
  ·simp [get]
  ·have : y.1 < k := h1.1 _ hm
   have hne : (y.1 == k) = false := by simp; omega
   unfold get
   rw [List.find?_cons, hne]
   exact get_of_mem h1.2 hm
theorem get_none {k : Int} {L : List (Int × β)} : get k L = none ↔ ∀ p ∈ L, p.1 ≠ k := by
 unfold get
 rw [Option.map_eq_none_iff, List.find?_eq_none]
 constructor
 ·intro h p hp; simpa using h p hp
 ·intro h p hp; simpa using h p hp
theorem get_put_same {k : Int} {v : β} {L : List (Int × β)} (h : Srt L) : get k (put k v L) = some v := get_of_mem (srt_put h) (mem_put.2 (.inl rfl))
theorem get_put_other {k k' : Int} {v : β} {L : List (Int × β)} (h : Srt L) (hne : k' ≠ k) : get k' (put k v L) = get k' L := by
 cases hg : get k' L with
 | some u => exact get_of_mem (srt_put h) (mem_put.2 (.inr ⟨get_mem hg, hne⟩))
 | none =>
  refine get_none.2 fun p hp => ?_
  rcases mem_put.1 hp with rfl | ⟨hp, _⟩
  ·exact fun e => hne e.symm
  ·exact get_none.1 hg p hp
theorem srt_ext {L M : List (Int × β)} (hL : Srt L) (hM : Srt M) (h : ∀ p, p ∈ L ↔ p ∈ M) : L = M := by
 have hp : L.Perm M := by
  refine (List.perm_ext_iff_of_nodup ?_ ?_).2 h
  ·exact hL.imp fun {a b} hab e => by subst e; omega
  ·exact hM.imp fun {a b} hab e => by subst e; omega
 exact hp.eq_of_pairwise (fun a b _ _ h1 h2 => by omega) hL hM
end
abbrev RV (v : Value) : Option (DataW Value × List MemPlace) := some (.held v, [])
def dat (L : List (Int × Value)) : DataW Value := .map (L.map fun p => (.int .i64 p.1, .held p.2))
theorem same_eq (a k : Int) : (Lit.int .i64 a).sameKey (.int .i64 k) = (a == k) := by
 simp only [Lit.sameKey, true_and]
 by_cases e : a = k <;> simp [e]
theorem dat_filter (k : Int) (L : List (Int × Value)) : (L.map fun p => ((Lit.int .i64 p.1, DataW.held p.2) : Lit × DataW Value)).filter (fun p => !p.1.sameKey (.int .i64 k)) = (del k L).map fun p => (.int .i64 p.1, .held p.2) := by
 unfold del
 rw [List.filter_map]
 congr 1
 refine List.filter_congr fun p _ => ?_
 simp only [Function.comp_apply, same_eq]
 rfl
theorem dat_insert (x : Int × Value) : ∀ L : List (Int × Value), DataW.insert (.int .i64 x.1, .held x.2) (L.map fun p => ((Lit.int .i64 p.1, DataW.held p.2) : Lit × DataW Value)) = (insS x L).map fun p => (.int .i64 p.1, .held p.2)
 | [] => rfl
 | y :: r => by
  simp only [List.map_cons, DataW.insert, Lit.before, insS, decide_eq_true_eq]
  split
  ·rfl
  ·rw [dat_insert x r]; rfl
theorem dat_put (k : Int) (v : Value) (L : List (Int × Value)) : (dat L).put (.int .i64 k) (.held v) = dat (put k v L) := by
 simp only [dat, DataW.put, dat_filter]
 rw [dat_insert (k, v)]
 rfl
theorem dat_del (k : Int) (L : List (Int × Value)) : (dat L).del (.int .i64 k) = dat (del k L) := by
 simp only [dat, DataW.del, dat_filter]
theorem dat_atKey (k : Int) (z : Value) : ∀ L : List (Int × Value), (dat L).atKey (.int .i64 k) (.held z) = .held ((get k L).getD z)
 | [] => rfl
 | y :: r => by
  have ih := dat_atKey k z r
  simp only [dat, DataW.atKey, List.map_cons, List.find?_cons, get, same_eq] at ih ⊢
  by_cases e : y.1 = k
  ·simp [e]
  ·have e2 : (y.1 == k) = false := by simpa using e
   rw [e2]
   exact ih
theorem dat_has (k : Int) : ∀ L : List (Int × Value), Maps.has (dat L) (.int .i64 k) = (get k L).isSome
 | [] => rfl
 | y :: r => by
  have ih := dat_has k r
  simp only [dat, has_eq, List.map_cons, List.any_cons, get, same_eq, List.find?_cons] at ih ⊢
  by_cases e : y.1 = k
  ·simp [e]
  ·have e2 : (y.1 == k) = false := by simpa using e
   rw [e2, Bool.false_or]
   exact ih
theorem dat_size (L : List (Int × Value)) : Maps.size (dat L) = L.length := by simp [dat, size_eq]
def MapIs (P : Program) (k : TypeId) (w : World) (b : Nat) (L : List (Int × Value)) : Prop := w.ownsMap P k RV b L.length (dat L)
section
variable {P : Program} {k : TypeId} {w w' : World} {b n : Nat} {L : List (Int × Value)}
theorem owns_tight {D : DataW Value} (h : w.ownsMap P k RV b n D) : w.ownsMap P k RV b (Maps.size D) D := by
 obtain ⟨es, clock, hb, F, hs, hD⟩ := h
 refine ⟨es, clock, hb, F, ?_, hD⟩
 rw [hD, size_eq, length_sorted]
 simp
theorem MapIs.of (h : w.ownsMap P k RV b n (dat L)) : MapIs P k w b L := by
 have := owns_tight h
 rwa [dat_size] at this
theorem MapIs.lt (h : MapIs P k w b L) : b < w.heap.size := World.ownsMap.lt h
theorem MapIs.of_block (h : MapIs P k w b L) (e : w'.heap[b]? = w.heap[b]?) : MapIs P k w' b L := by
 obtain ⟨es, clock, hb, F, hs, hD⟩ := h
 exact ⟨es, clock, e.trans hb, F, hs, hD⟩
theorem MapIs.clone {b' : Nat} {es : Array MapEntry} {clock : Nat} (h : MapIs P k w b L) (hb : w.heap[b]? = some (.map es clock)) (hb' : w'.heap[b']? = some (.map es clock)) : MapIs P k w' b' L := by
 obtain ⟨es1, clock1, hb1, F, hs, hD⟩ := h
 rw [hb] at hb1
 cases hb1
 exact ⟨es, clock, hb', F, hs, hD⟩
theorem MapIs.block (h : MapIs P k w b L) : ∃ es clock, w.heap[b]? = some (.map es clock) := by
 obtain ⟨es, clock, hb, _⟩ := h
 exact ⟨es, clock, hb⟩
theorem MapIs.srt (h : MapIs P k w b L) (K : Keyed P k) : Srt L := by
 obtain ⟨es, he, hp, _⟩ := World.ownsMap.canon h K
 unfold dat at he
 cases he
 exact (List.pairwise_map.1 hp).imp fun {a c} hac => by simpa [Lit.before] using hac
theorem MapIs.made (w : World) (P : Program) (k : TypeId) : MapIs P k (w.alloc (.map #[] 0)) w.heap.size [] := World.ownsMap_made w P k RV
theorem held_eq {v u : Value} {ps : List MemPlace} {D : DataW Value} (h : RV v = some (D, ps)) (hD : D = .held u) : v = u := by
 subst hD
 simp [RV] at h
 exact h.1
end
section
variable {P : Program} (w : World) {ops : Array Oper} {rest : List Oper} {o : Oper} {a : Act} {Q : Exit → Act → World → Prop}
theorem wpList_look (hg : o.guard = none) (m x : Operand) (t : TypeId) (hop : o.op = Op.lookup t m x true)
  (k e : TypeId) (hk : P.underlying k = some (.int .i64)) (ht : P.underlying t = some (.map k e)) (z : Value) (hz : (zeroValue e).run P w = .ok z w) (b : Nat) (L : List (Int × Value))
  (hm : a.eval m = .map (some b)) (hown : MapIs P k w b L) (i : Int) (hx : a.eval x = .int .i64 i) (hi : (Lit.int .i64 i).wf = true)
  (hK : wpList P ops Q rest (a.put o.dst (.tuple #[(get i L).getD z, .bool (get i L).isSome])) w) :
  wpList P ops Q (o :: rest) a w :=
 wpList_lookup_own_ok w hg m x t hop k e (int_keyed hk) ht RV hz (.held z) [] rfl b _ (dat L) hm hown (.int .i64 i) (.int .i64 i) hx (keyOf_int_mk hk hi) (fun v ps hv => by
  have := held_eq hv (dat_atKey i z L)
  subst this
  rw [dat_has]
  exact hK)
theorem wpList_look1 (hg : o.guard = none) (m x : Operand) (t : TypeId) (hop : o.op = Op.lookup t m x false)
  (k e : TypeId) (hk : P.underlying k = some (.int .i64)) (ht : P.underlying t = some (.map k e)) (z : Value) (hz : (zeroValue e).run P w = .ok z w) (b : Nat) (L : List (Int × Value))
  (hm : a.eval m = .map (some b)) (hown : MapIs P k w b L) (i : Int) (hx : a.eval x = .int .i64 i) (hi : (Lit.int .i64 i).wf = true)
  (hK : wpList P ops Q rest (a.put o.dst ((get i L).getD z)) w) :
  wpList P ops Q (o :: rest) a w := by
 refine wpList_plain hg fun K' hK' => ?_
 obtain ⟨v, ps, hrun, hv⟩ := World.ownsMap.lookup hown (int_keyed hk) ht hz (zd := .held z) (zp := []) rfl (keyOf_int_mk hk hi)
 have := held_eq hv (dat_atKey i z L)
 subst this
 unfold Oper.wp
 simp [execOp, hop, hm, hx, hrun, Result.andThen]
 exact hK' _ _ hK
theorem wpList_upd (hg : o.guard = none) (m x v : Operand) (t : TypeId) (hop : o.op = Op.mapUpdate t m x v)
  (k e : TypeId) (hk : P.underlying k = some (.int .i64)) (ht : P.underlying t = some (.map k e)) (b : Nat) (L : List (Int × Value))
  (hm : a.eval m = .map (some b)) (hown : MapIs P k w b L) (hn : L.length < 1000000000) (i : Int) (val : Value) (hx : a.eval x = .int .i64 i) (hv : a.eval v = val) (hi : (Lit.int .i64 i).wf = true)
  (hK : ∀ w', MapIs P k w' b (put i val L) → w.grownBy w' (some b) → wpList P ops Q rest (a.put o.dst undef) w') :
  wpList P ops Q (o :: rest) a w :=
 wpList_mapUpdate_own w hg m x v t hop k e (int_keyed hk) ht RV b _ (dat L) hm hown (by unfold maxLen; omega) (.int .i64 i) val (.int .i64 i) hx hv (keyOf_int_mk hk hi) (.held val) [] rfl
  (fun w' h1 h2 => hK w' (by rw [dat_put] at h1; exact MapIs.of h1) h2)
end
end Go.Proofs.YtlfikhblmbidmaaGreatDoor
namespace Go.Proofs.YtlfikhblmbidmaaGreatDoor
open Go.RowKit
structure Fr (S : Nat → Prop) (w w' : World) : Prop where
 os : w'.os = w.os
 tape : w'.tape = w.tape
 output : w'.output = w.output
 size : w.heap.size ≤ w'.heap.size
 block : ∀ i, i < w.heap.size → ¬ S i → w'.heap[i]? = w.heap[i]?
namespace Fr
variable {S S' : Nat → Prop} {a b c : World}
theorem refl (S : Nat → Prop) (w : World) : Fr S w w := ⟨rfl, rfl, rfl, Nat.le_refl _, fun _ _ _ => rfl⟩
theorem trans (h : Fr S a b) (k : Fr S b c) : Fr S a c :=
 ⟨k.os.trans h.os, k.tape.trans h.tape, k.output.trans h.output, Nat.le_trans h.size k.size, fun i hi hs => (k.block i (Nat.lt_of_lt_of_le hi h.size) hs).trans (h.block i hi hs)⟩
theorem mono (h : Fr S a b) (hS : ∀ i, S i → S' i) : Fr S' a b := ⟨h.os, h.tape, h.output, h.size, fun i hi hs => h.block i hi fun k => hs (hS i k)⟩
theorem mono' (h : Fr S a b) (hS : ∀ i, i < a.heap.size → S i → S' i) : Fr S' a b := ⟨h.os, h.tape, h.output, h.size, fun i hi hs => h.block i hi fun k => hs (hS i hi k)⟩
theorem trans' {T : Nat → Prop} (h : Fr S a b) (k : Fr T b c) (hT : ∀ i, i < a.heap.size → T i → S i) : Fr S a c :=
 ⟨k.os.trans h.os, k.tape.trans h.tape, k.output.trans h.output, Nat.le_trans h.size k.size, fun i hi hs => (k.block i (Nat.lt_of_lt_of_le hi h.size) fun t => hs (hT i hi t)).trans (h.block i hi hs)⟩
theorem of_grown {row : Option Nat} (h : a.grownBy b row) (hr : ∀ i, row = some i → S i) : Fr S a b := ⟨h.os, h.tape, h.output, h.size, fun i hi hs => h.block i hi fun e => hs (hr i e.symm)⟩
theorem of_below (h : Below a.heap.size a b) : Fr S a b := ⟨h.os, h.tape, h.output, h.size, fun i hi _ => h.block i hi⟩
theorem below {B : Nat} (h : Fr S a b) (hB : B ≤ a.heap.size) (hS : ∀ i, S i → B ≤ i) : Below B a b := ⟨h.os, h.tape, h.output, h.size, fun i hi => h.block i (Nat.lt_of_lt_of_le hi hB) fun k => by have := hS i k; omega⟩
theorem alloc (h : Fr S a b) (o : Obj) : Fr S a (b.alloc o) := h.trans' (S := S) (T := S) ⟨rfl, rfl, rfl, by simp, fun i hi _ => Below.heap_alloc _ _ i hi⟩ (fun _ _ h => h)
theorem setCell (h : Fr S a b) {p : Addr} (hp : S p.block ∨ a.heap.size ≤ p.block) (v : Value) : Fr S a (b.setCell p v) :=
 ⟨h.os, h.tape, h.output, by simpa [World.setCell] using h.size, fun i hi hs => (Below.heap_setCell b p v i (by
  rintro rfl
  rcases hp with hp | hp
  ·exact hs hp
  ·omega)).trans (h.block i hi hs)⟩
theorem drew (h : Fr S a b) : Fr S a b.drew := ⟨h.os, h.tape, h.output, h.size, h.block⟩
theorem drewN (h : Fr S a b) (n : Nat) : Fr S a (b.drewN n) := ⟨h.os, h.tape, h.output, h.size, h.block⟩
theorem of_drew (h : Fr S a.drew b) : Fr S a b := ⟨h.os, h.tape, h.output, h.size, h.block⟩
theorem cell (h : Fr S a b) {p : Addr} {v : Value} (hs : ¬ S p.block) (hc : a.cell? p = some v) : b.cell? p = some v := by
 have hlt : p.block < a.heap.size := by
  obtain ⟨o, ho, _⟩ := cells_of_cell hc
  exact (Array.getElem?_eq_some_iff.1 ho).1
 exact (World.cell?_of_block (h.block p.block hlt hs)).trans hc
end Fr
def S0 : Nat → Prop := fun _ => False
def S1 (p : Nat) : Nat → Prop := fun i => i = p
def S2 (p q : Nat) : Nat → Prop := fun i => i = p ∨ i = q
def Blk (w : World) (b : Nat) (t : TypeId) (cs : Array Value) : Prop := w.heap[b]? = some (.cells cs t (0, 0))
namespace Blk
variable {w w' : World} {b : Nat} {t : TypeId} {cs : Array Value}
theorem lt (h : Blk w b t cs) : b < w.heap.size := (Array.getElem?_eq_some_iff.1 h).1
theorem cell (h : Blk w b t cs) {i : Nat} {v : Value} (hi : cs[i]? = some v) : w.cell? ⟨b, i, none⟩ = some v := by simp [World.cell?, show w.heap[b]? = _ from h, hi]
theorem frozen (h : Blk w b t cs) (i : Nat) : w.frozen? ⟨b, i, none⟩ = false := by simp [World.frozen?, show w.heap[b]? = _ from h]
theorem new (w : World) (t : TypeId) (cs : Array Value) : Blk (w.alloc (.cells cs t)) w.heap.size t cs := World.alloc_heap_new w _
theorem of_block (h : Blk w b t cs) (e : w'.heap[b]? = w.heap[b]?) : Blk w' b t cs := e.trans h
theorem fr {S : Nat → Prop} (h : Blk w b t cs) (k : Fr S w w') (hs : ¬ S b) : Blk w' b t cs := h.of_block (k.block b h.lt hs)
theorem alloc (h : Blk w b t cs) (o : Obj) : Blk (w.alloc o) b t cs := h.of_block (Below.heap_alloc w o b h.lt)
theorem set (h : Blk w b t cs) (i : Nat) (v : Value) : Blk (w.setCell ⟨b, i, none⟩ v) b t (cs.setIfInBounds i v) := by
 obtain ⟨hlt, hk⟩ := Array.getElem?_eq_some_iff.1 h
 show (w.heap.modify b _)[b]? = _
 rw [Array.getElem?_eq_getElem (by rw [Array.size_modify]; exact hlt), Array.getElem_modify_self, hk]
 rfl
theorem setOther (h : Blk w b t cs) {p : Addr} (hp : b ≠ p.block) (v : Value) : Blk (w.setCell p v) b t cs := h.of_block (Below.heap_setCell w p v b (fun e => hp e))
theorem ne_type {b' : Nat} {t' : TypeId} {cs' : Array Value} (h : Blk w b t cs) (h' : Blk w b' t' cs') (ht : t ≠ t') : b ≠ b' := by
 rintro rfl
 have := (show w.heap[b]? = _ from h).symm.trans h'
 simp at this
 exact ht this.2
theorem ne_map {b' : Nat} {es : Array MapEntry} {c : Nat} (h : Blk w b t cs) (h' : w.heap[b']? = some (.map es c)) : b ≠ b' := by
 rintro rfl
 have := (show w.heap[b]? = _ from h).symm.trans h'
 simp at this
end Blk
end Go.Proofs.YtlfikhblmbidmaaGreatDoor
namespace Go.Proofs.YtlfikhblmbidmaaGreatDoor
def uintB (n : Nat) : List UInt8 := if n < 128 then [UInt8.ofNat n] else UInt8.ofNat (n % 128 + 128) :: uintB (n / 128)
termination_by n
decreasing_by omega
theorem uintB_lt {n : Nat} (h : n < 128) : uintB n = [UInt8.ofNat n] := by rw [uintB, if_pos h]
theorem uintB_ge {n : Nat} (h : ¬ n < 128) : uintB n = UInt8.ofNat (n % 128 + 128) :: uintB (n / 128) := by rw [uintB, if_neg h]
theorem uintB_pos (n : Nat) : 0 < (uintB n).length := by
 by_cases h : n < 128
 ·rw [uintB_lt h]; simp
 ·rw [uintB_ge h]; simp
theorem uintB_len : ∀ (k n : Nat), 1 ≤ k → n < 128 ^ k → (uintB n).length ≤ k
 | 0, n, h, _ => absurd h (by omega)
 | 1, n, _, h => by rw [uintB_lt (by omega)]; simp
 | k + 2, n, _, h => by
  by_cases h1 : n < 128
  ·rw [uintB_lt h1]; simp
  ·rw [uintB_ge h1]
   have : n / 128 < 128 ^ (k + 1) := by
    rw [Nat.div_lt_iff_lt_mul (by decide)]
    rw [Nat.pow_succ] at h
    exact h
   have := uintB_len (k + 1) (n / 128) (by omega) this
   simp; omega
theorem uintB_len10 {n : Nat} (h : n < 18446744073709551616) : (uintB n).length ≤ 10 := uintB_len 10 n (by decide) (Nat.lt_trans h (by decide))
def textB (s : List UInt8) : List UInt8 := uintB s.length ++ s
def numB (i n : Nat) : List UInt8 → Option (Nat × Nat)
 | [] => none
 | c :: r =>
  if (i = 9 ∧ 1 < c.toNat) ∨ (0 < i ∧ c.toNat = 0) then none
  else if c.toNat < 128 then some (n + c.toNat % 128 * 128 ^ i, i + 1)
  else numB (i + 1) (n + c.toNat % 128 * 128 ^ i) r
theorem ofNat_toNat8 {n : Nat} (h : n < 256) : (UInt8.ofNat n).toNat = n := by simp; omega
theorem toNat_ofNat8 (c : UInt8) : UInt8.ofNat c.toNat = c := by simp
theorem numB_enc : ∀ (i : Nat) (q m : Nat) (r : List UInt8), i ≤ 9 → m + q * 128 ^ i < 18446744073709551616 → (0 < i → 0 < q) → numB i m (uintB q ++ r) = some (m + q * 128 ^ i, i + (uintB q).length) := by
 intro i
 induction h9 : 9 - i generalizing i with
 | zero =>
  intro q m r hi hq hp
  obtain rfl : i = 9 := by omega
  have hq1 : q = 1 := by
   have := hp (by decide)
   have : q < 2 := by
    rcases Nat.lt_or_ge q 2 with h | h
    ·exact h
    ·have : 2 * 128 ^ 9 ≤ q * 128 ^ 9 := Nat.mul_le_mul_right _ h
     omega
   omega
  subst hq1
  rw [uintB_lt (by decide)]
  simp [numB]
 | succ k ih =>
  intro q m r hi hq hp
  have h8 : i ≤ 8 := by omega
  by_cases hl : q < 128
  ·rw [uintB_lt hl]
   have hc : (UInt8.ofNat q).toNat = q := ofNat_toNat8 (by omega)
   simp only [List.cons_append, List.nil_append, numB, hc, List.length_singleton]
   have h2 : ¬ ((i = 9 ∧ 1 < q) ∨ (0 < i ∧ q = 0)) := by
    rintro (⟨h, _⟩ | ⟨h, h'⟩)
    ·omega
    ·have := hp h; omega
   rw [if_neg h2, if_pos hl, Nat.mod_eq_of_lt hl]
  ·rw [uintB_ge hl]
   have hc : (UInt8.ofNat (q % 128 + 128)).toNat = q % 128 + 128 := ofNat_toNat8 (by omega)
   simp only [List.cons_append, numB, hc, List.length_cons]
   have h2 : ¬ ((i = 9 ∧ 1 < q % 128 + 128) ∨ (0 < i ∧ q % 128 + 128 = 0)) := by omega
   rw [if_neg h2, if_neg (by omega)]
   have e1 : (q % 128 + 128) % 128 = q % 128 := by omega
   have e2 : q % 128 * 128 ^ i + q / 128 * 128 ^ (i + 1) = q * 128 ^ i := by
    rw [Nat.pow_succ, Nat.mul_comm (128 ^ i) 128, ← Nat.mul_assoc, ← Nat.add_mul]
    congr 1
    omega
   rw [ih (i + 1) (by omega) (q / 128) _ r (by omega) (by rw [e1, Nat.add_assoc, e2]; exact hq) (fun _ => by omega), e1, Nat.add_assoc, e2]
   congr 2
   omega
theorem numB_dec : ∀ (b : List UInt8) (i m n k : Nat), i ≤ 9 → m < 128 ^ i → numB i m b = some (n, k) → ∃ q r, b = uintB q ++ r ∧ n = m + q * 128 ^ i ∧ k = i + (uintB q).length ∧ n < 18446744073709551616 ∧ (0 < i → 0 < q) := by
 intro b
 induction b with
 | nil => intro i m n k _ _ h; simp [numB] at h
 | cons c r ih =>
  intro i m n k hi hm h
  have hc : c.toNat < 256 := c.toNat_lt
  simp only [numB] at h
  split at h
  ·cases h
  ·rename_i h1
   split at h
   ·rename_i h2
    cases h
    rw [Nat.mod_eq_of_lt h2]
    refine ⟨c.toNat, r, by rw [uintB_lt h2, toNat_ofNat8]; rfl, rfl, by rw [uintB_lt h2]; rfl, ?_, fun h => by omega⟩
    rcases Nat.lt_or_ge i 9 with h | h
    ·have : m + c.toNat * 128 ^ i < 128 ^ i * 128 := by
      have : c.toNat * 128 ^ i ≤ 127 * 128 ^ i := Nat.mul_le_mul_right _ (by omega)
      omega
     have h3 : 128 ^ i * 128 ≤ 128 ^ 9 := by rw [← Nat.pow_succ]; exact Nat.pow_le_pow_right (by decide) (by omega)
     have : (128 : Nat) ^ 9 < 18446744073709551616 := by decide
     omega
    ·obtain rfl : i = 9 := by omega
     have : c.toNat * 128 ^ 9 ≤ 1 * 128 ^ 9 := Nat.mul_le_mul_right _ (by omega)
     have : (128 : Nat) ^ 9 = 9223372036854775808 := by decide
     omega
   ·rename_i h2
    have hi8 : i ≤ 8 := by
     rcases Nat.lt_or_ge i 9 with h' | h'
     ·omega
     ·exact absurd (Or.inl ⟨by omega, by omega⟩) h1
    have hm' : m + c.toNat % 128 * 128 ^ i < 128 ^ (i + 1) := by
     have : c.toNat % 128 * 128 ^ i ≤ 127 * 128 ^ i := Nat.mul_le_mul_right _ (by omega)
     rw [Nat.pow_succ]
     omega
    obtain ⟨q, r', hr, hn, hk, hlt, hq⟩ := ih (i + 1) _ n k (by omega) hm' h
    have hq0 := hq (by omega)
    have hd : (c.toNat % 128 + q * 128) / 128 = q := by omega
    have hmd : (c.toNat % 128 + q * 128) % 128 = c.toNat % 128 := by omega
    have hge : ¬ (c.toNat % 128 + q * 128) < 128 := by omega
    refine ⟨c.toNat % 128 + q * 128, r', ?_, ?_, ?_, hlt, fun _ => by omega⟩
    ·rw [uintB_ge hge, hd, hmd, show c.toNat % 128 + 128 = c.toNat by omega, toNat_ofNat8, hr]
     rfl
    ·rw [hn, Nat.add_mul, Nat.pow_succ, Nat.mul_comm (128 ^ i) 128, Nat.mul_assoc, Nat.add_assoc]
    ·rw [uintB_ge hge, hd, hk]
     simp; omega
theorem numB_iff (b : List UInt8) (n k : Nat) : numB 0 0 b = some (n, k) ↔ n < 18446744073709551616 ∧ k = (uintB n).length ∧ ∃ r, b = uintB n ++ r := by
 constructor
 ·intro h
  obtain ⟨q, r, hb, hn, hk, hlt, _⟩ := numB_dec b 0 0 n k (by decide) (by decide) h
  obtain rfl : n = q := by simpa using hn
  exact ⟨hlt, by omega, r, hb⟩
 ·rintro ⟨h, rfl, r, rfl⟩
  have := numB_enc 0 n 0 r (by decide) (by simpa using h) (fun h => absurd h (by decide))
  simpa using this
abbrev Rd := Option (List UInt8)
def rdU : Rd → Nat × Rd
 | none => (0, none)
 | some b => match numB 0 0 b with
  | some (n, k) => (n, some (b.drop k))
  | none => (0, none)
def rdT : Rd → List UInt8 × Rd
 | none => ([], none)
 | some b => match numB 0 0 b with
  | some (n, k) => if n ≤ 65536 ∧ n ≤ b.length - k then ((b.drop k).take n, some (b.drop (k + n))) else ([], none)
  | none => ([], none)
theorem rdU_enc {n : Nat} (h : n < 18446744073709551616) (r : List UInt8) : rdU (some (uintB n ++ r)) = (n, some r) := by
 have := (numB_iff (uintB n ++ r) n _).2 ⟨h, rfl, r, rfl⟩
 simp [rdU, this]
theorem rdU_dec {s : Rd} {n : Nat} {r : List UInt8} (h : rdU s = (n, some r)) : n < 18446744073709551616 ∧ s = some (uintB n ++ r) := by
 cases s with
 | none => simp [rdU] at h
 | some b =>
  simp only [rdU] at h
  split at h
  ·rename_i m k hm
   cases h
   obtain ⟨h1, rfl, r', rfl⟩ := (numB_iff _ _ _).1 hm
   exact ⟨h1, by simp⟩
  ·cases h
theorem rdT_enc {s : List UInt8} (h : s.length ≤ 65536) (r : List UInt8) : rdT (some (textB s ++ r)) = (s, some r) := by
 have := (numB_iff (textB s ++ r) s.length _).2 ⟨by omega, rfl, s ++ r, by simp [textB]⟩
 simp only [rdT, this]
 rw [if_pos ⟨h, by simp [textB]⟩]
 simp [textB, List.drop_append]
theorem rdT_dec {s : Rd} {t r : List UInt8} (h : rdT s = (t, some r)) : t.length ≤ 65536 ∧ s = some (textB t ++ r) := by
 cases s with
 | none => simp [rdT] at h
 | some b =>
  simp only [rdT] at h
  split at h
  ·rename_i m k hm
   split at h
   ·rename_i hc
    cases h
    obtain ⟨h1, rfl, r', rfl⟩ := (numB_iff _ _ _).1 hm
    have hl : m ≤ r'.length := by have := hc.2; simp at this; omega
    have ht : (List.take m r').length = m := by simp; omega
    have e1 : (uintB m ++ r').drop (uintB m).length = r' := by simp
    have e2 : (uintB m ++ r').drop ((uintB m).length + m) = r'.drop m := by rw [← List.drop_drop, e1]
    rw [e1, e2]
    refine ⟨by rw [ht]; exact hc.1, ?_⟩
    rw [textB, ht]
    simp
   ·cases h
  ·cases h
end Go.Proofs.YtlfikhblmbidmaaGreatDoor
namespace Go.Proofs.YtlfikhblmbidmaaGreatDoor
structure Rec where
 k : Nat
 ro : Nat
 no : Nat
 sl : Nat
 v : List UInt8
deriving DecidableEq
def Rec.bytes (x : Rec) : List UInt8 := uintB x.k ++ ((if x.k = 3 then [] else uintB x.ro ++ uintB x.no) ++ (if x.k = 1 then [] else uintB x.sl ++ textB x.v))
structure Rec.Ok (x : Rec) : Prop where
 k1 : 1 ≤ x.k
 k3 : x.k ≤ 3
 b1 : x.k ≠ 3 → 1 ≤ x.ro ∧ x.ro ≤ 1073741824 ∧ x.no ≤ 6
 b0 : x.k = 3 → x.ro = 0 ∧ x.no = 0
 s1 : x.k ≠ 1 → x.sl ≤ 4095
 s0 : x.k = 1 → x.sl = 0 ∧ x.v = []
def rdN (most : Nat) (s : Rd) : Option (Nat × Rd) := if (rdU s).1 ≤ most then some (rdU s) else none
theorem rdN_yes {most : Nat} {s : Rd} (h : (rdU s).1 ≤ most) : rdN most s = some (rdU s) := if_pos h
theorem rdN_no {most : Nat} {s : Rd} (h : ¬ (rdU s).1 ≤ most) : rdN most s = none := if_neg h
theorem rdN_enc {n most : Nat} (h : n ≤ most) (hm : most < 18446744073709551616) (r : List UInt8) : rdN most (some (uintB n ++ r)) = some (n, some r) := by
 have := rdU_enc (show n < 18446744073709551616 by omega) r
 rw [rdN, if_pos (by rw [this]; exact h), this]
theorem rdN_dec {most : Nat} {s s' : Rd} {n : Nat} (h : rdN most s = some (n, s')) : rdU s = (n, s') ∧ n ≤ most := by
 unfold rdN at h
 split at h
 ·rename_i h1
  have h := Option.some.inj h
  exact ⟨h, by rw [h] at h1; exact h1⟩
 ·cases h
def readB (k : Nat) (s : Rd) : Option (Nat × Nat × Rd) :=
 if k = 3 then some (0, 0, s) else (rdN 1073741824 s).bind fun p => (rdN 6 p.2).bind fun q => if 1 ≤ p.1 then some (p.1, q.1, q.2) else none
def readS (k : Nat) (s : Rd) : Option (Nat × List UInt8 × Rd) :=
 if k = 1 then some (0, [], s) else (rdN 4095 s).bind fun p => some (p.1, (rdT p.2).1, (rdT p.2).2)
def readR (s : Rd) : Option (Rec × Rd) :=
 (rdN 3 s).bind fun p => if p.1 = 0 then none else (readB p.1 p.2).bind fun q => (readS p.1 q.2.2).bind fun t => some (⟨p.1, q.1, q.2.1, t.1, t.2.1⟩, t.2.2)
def parseP (b : List UInt8) : Option Rec :=
 if 65536 < b.length then none else
 match readR (some b) with
 | some (x, some []) => some x
 | _ => none
theorem readR_enc {x : Rec} (h : x.Ok) (hv : x.v.length ≤ 65536) (r : List UInt8) : readR (some (x.bytes ++ r)) = some (x, some r) := by
 obtain ⟨k, ro, no, sl, v⟩ := x
 obtain ⟨k1, k3, b1, b0, s1, s0⟩ := h
 simp only at *
 have e0 : rdN 3 (some ((Rec.mk k ro no sl v).bytes ++ r)) = some (k, some ((if k = 3 then [] else uintB ro ++ uintB no) ++ ((if k = 1 then [] else uintB sl ++ textB v) ++ r))) := by
  simp only [Rec.bytes, List.append_assoc]
  exact rdN_enc k3 (by decide) _
 have e1 : readB k (some ((if k = 3 then [] else uintB ro ++ uintB no) ++ ((if k = 1 then [] else uintB sl ++ textB v) ++ r))) = some (ro, no, some ((if k = 1 then [] else uintB sl ++ textB v) ++ r)) := by
  unfold readB
  by_cases h3 : k = 3
  ·obtain ⟨rfl, rfl⟩ := b0 h3
   simp only [if_pos h3, List.nil_append]
  ·obtain ⟨h1, h2, h4⟩ := b1 h3
   simp only [if_neg h3, List.append_assoc]
   rw [rdN_enc h2 (by decide)]
   simp only [Option.bind_some]
   rw [rdN_enc h4 (by decide)]
   simp only [Option.bind_some, if_pos h1]
 have e2 : readS k (some ((if k = 1 then [] else uintB sl ++ textB v) ++ r)) = some (sl, v, some r) := by
  unfold readS
  by_cases h3 : k = 1
  ·obtain ⟨rfl, rfl⟩ := s0 h3
   simp only [if_pos h3, List.nil_append]
  ·simp only [if_neg h3, List.append_assoc]
   rw [rdN_enc (s1 h3) (by decide)]
   simp only [Option.bind_some]
   rw [rdT_enc hv]
 unfold readR
 rw [e0]
 simp only [Option.bind_some]
 rw [if_neg (by omega), e1]
 simp only [Option.bind_some]
 rw [e2]
 rfl
theorem readR_dec {s : Rd} {x : Rec} {r : List UInt8} (h : readR s = some (x, some r)) : x.Ok ∧ x.v.length ≤ 65536 ∧ s = some (x.bytes ++ r) := by
 unfold readR at h
 simp only [Option.bind_eq_some_iff] at h
 obtain ⟨⟨k, s1⟩, h1, h2⟩ := h
 split at h2
 ·cases h2
 ·rename_i hk0
  simp only [Option.bind_eq_some_iff] at h2
  obtain ⟨⟨ro, no, s2⟩, hB, ⟨sl, v, s3⟩, hS, he⟩ := h2
  cases he
  obtain ⟨hk, hk3⟩ := rdN_dec h1
  simp only at *
  have hSd : (k ≠ 1 → sl ≤ 4095) ∧ (k = 1 → sl = 0 ∧ v = []) ∧ v.length ≤ 65536 ∧ s2 = some ((if k = 1 then [] else uintB sl ++ textB v) ++ r) := by
   unfold readS at hS
   by_cases hk1 : k = 1
   ·simp only [if_pos hk1] at hS ⊢
    cases hS
    exact ⟨fun h => absurd hk1 h, fun _ => ⟨rfl, rfl⟩, by simp, rfl⟩
   ·simp only [if_neg hk1, Option.bind_eq_some_iff] at hS ⊢
    obtain ⟨⟨a, s4⟩, ha, hb⟩ := hS
    simp only [Option.some.injEq, Prod.mk.injEq] at hb
    obtain ⟨rfl, hb1, hb2⟩ := hb
    obtain ⟨ha1, ha2⟩ := rdN_dec ha
    have ht : rdT s4 = (v, some r) := by rw [← hb1, ← hb2]
    obtain ⟨hv, rfl⟩ := rdT_dec ht
    obtain ⟨_, rfl⟩ := rdU_dec ha1
    exact ⟨fun _ => ha2, fun h => absurd h hk1, hv, by simp⟩
  obtain ⟨hS1, hS0, hv, rfl⟩ := hSd
  have hBd : (k ≠ 3 → 1 ≤ ro ∧ ro ≤ 1073741824 ∧ no ≤ 6) ∧ (k = 3 → ro = 0 ∧ no = 0) ∧ s1 = some ((if k = 3 then [] else uintB ro ++ uintB no) ++ ((if k = 1 then [] else uintB sl ++ textB v) ++ r)) := by
   unfold readB at hB
   by_cases hk1 : k = 3
   ·simp only [if_pos hk1] at hB ⊢
    cases hB
    exact ⟨fun h => absurd hk1 h, fun _ => ⟨rfl, rfl⟩, rfl⟩
   ·simp only [if_neg hk1, Option.bind_eq_some_iff] at hB ⊢
    obtain ⟨⟨a, s4⟩, ha, ⟨c, s5⟩, hc, hb⟩ := hB
    simp only at hb
    split at hb
    ·rename_i h1a
     cases hb
     obtain ⟨ha1, ha2⟩ := rdN_dec ha
     obtain ⟨hc1, hc2⟩ := rdN_dec hc
     obtain ⟨_, e5⟩ := rdU_dec hc1
     simp only at e5
     subst e5
     obtain ⟨_, rfl⟩ := rdU_dec ha1
     exact ⟨fun _ => ⟨h1a, ha2, hc2⟩, fun h => absurd h hk1, by simp⟩
    ·cases hb
  obtain ⟨hB1, hB0, rfl⟩ := hBd
  obtain ⟨_, rfl⟩ := rdU_dec hk
  exact ⟨⟨by show 1 ≤ k; omega, hk3, hB1, hB0, hS1, hS0⟩, hv, by simp [Rec.bytes]⟩
theorem parseP_some {b : List UInt8} {x : Rec} (h : parseP b = some x) : x.Ok ∧ x.v.length ≤ 65536 ∧ b = x.bytes ∧ b.length ≤ 65536 := by
 unfold parseP at h
 split at h
 ·cases h
 ·rename_i hl
  split at h
  ·rename_i hx
   cases h
   obtain ⟨h1, h2, h3⟩ := readR_dec hx
   exact ⟨h1, h2, by simpa using h3, by omega⟩
  ·cases h
theorem parseP_enc {x : Rec} (h : x.Ok) (hl : x.bytes.length ≤ 65536) : parseP x.bytes = some x := by
 have hv : x.v.length ≤ 65536 := by
  by_cases hk : x.k = 1
  ·rw [(h.s0 hk).2]; simp
  ·simp [Rec.bytes, if_neg hk, textB] at hl
   omega
 have := readR_enc h hv []
 rw [List.append_nil] at this
 rw [parseP, if_neg (by omega), this]
end Go.Proofs.YtlfikhblmbidmaaGreatDoor
namespace Go.Proofs.YtlfikhblmbidmaaGreatDoor
def fours16 : List Nat := [0x00000000, 0x1DB71064, 0x3B6E20C8, 0x26D930AC, 0x76DC4190, 0x6B6B51F4, 0x4DB26158, 0x5005713C, 0xEDB88320, 0xF00F9344, 0xD6D6A3E8, 0xCB61B38C, 0x9B64C2B0, 0x86D3D2D4, 0xA00AE278, 0xBDBDF21C]
def crcFour (r : Nat) : Nat := (r / 16) ^^^ fours16.getD (r % 16) 0
def crcEight (r : Nat) : Nat := crcFour (crcFour r)
def crcReg (r : Nat) (b : List UInt8) : Nat := b.foldl (fun r c => crcEight (r ^^^ c.toNat)) r
def crcSum (b : List UInt8) : Nat := 4294967295 ^^^ crcReg 4294967295 b
theorem crcReg_snoc (r : Nat) (b : List UInt8) (c : UInt8) : crcReg r (b ++ [c]) = crcEight (crcReg r b ^^^ c.toNat) := by simp [crcReg]
theorem fours16_lt (i : Nat) : fours16.getD i 0 < 2 ^ 32 := by
 by_cases h : i < 16
 ·have : ∀ j, j < 16 → fours16.getD j 0 < 2 ^ 32 := by decide
  exact this i h
 ·have : fours16[i]? = none := List.getElem?_eq_none (by simp [fours16]; omega)
  simp [List.getD, this]
theorem crcFour_lt {r : Nat} (h : r < 2 ^ 32) : crcFour r < 2 ^ 32 := Nat.xor_lt_two_pow (by omega) (fours16_lt _)
theorem crcEight_lt {r : Nat} (h : r < 2 ^ 32) : crcEight r < 2 ^ 32 := crcFour_lt (crcFour_lt h)
theorem crcReg_lt : ∀ (b : List UInt8) (r : Nat), r < 2 ^ 32 → crcReg r b < 2 ^ 32
 | [], r, h => h
 | c :: b, r, h => crcReg_lt b _ (crcEight_lt (Nat.xor_lt_two_pow h (by have := c.toNat_lt; omega)))
theorem crcSum_lt (b : List UInt8) : crcSum b < 4294967296 := Nat.xor_lt_two_pow (n := 32) (by decide) (crcReg_lt b _ (by decide))
def be32 (n : Nat) : List UInt8 := [UInt8.ofNat (n / 16777216), UInt8.ofNat (n / 65536 % 256), UInt8.ofNat (n / 256 % 256), UInt8.ofNat (n % 256)]
def beNat (l : List UInt8) : Nat := l.foldl (fun a c => a * 256 + c.toNat) 0
theorem be32_length (n : Nat) : (be32 n).length = 4 := rfl
theorem beNat_be32 {n : Nat} (h : n < 4294967296) : beNat (be32 n) = n := by
 have e1 : (UInt8.ofNat (n / 16777216)).toNat = n / 16777216 := by simp; omega
 have e2 : (UInt8.ofNat (n / 65536 % 256)).toNat = n / 65536 % 256 := by simp
 have e3 : (UInt8.ofNat (n / 256 % 256)).toNat = n / 256 % 256 := by simp
 have e4 : (UInt8.ofNat (n % 256)).toNat = n % 256 := by simp
 simp only [beNat, be32, List.foldl_cons, List.foldl_nil, e1, e2, e3, e4]
 omega
theorem beNat_lt : ∀ (l : List UInt8), l.length = 4 → beNat l < 4294967296 := by
 intro l h
 match l, h with
 | [a, b, c, d], _ =>
  have := a.toNat_lt
  have := b.toNat_lt
  have := c.toNat_lt
  have := d.toNat_lt
  simp only [beNat, List.foldl_cons, List.foldl_nil]
  omega
def frameB (c : List UInt8) : List UInt8 := be32 c.length ++ (be32 (crcSum c) ++ c)
theorem frameB_length (c : List UInt8) : (frameB c).length = 8 + c.length := by simp [frameB, be32_length]; omega
def framesB (l : List (List UInt8)) : List UInt8 := l.flatMap frameB
def nextF (r : List UInt8) : Option (List UInt8 × List UInt8) :=
 if r.length < 8 then none
 else if 65536 < beNat (r.take 4) ∨ r.length - 8 < beNat (r.take 4) then none
 else if crcSum ((r.drop 8).take (beNat (r.take 4))) = beNat ((r.drop 4).take 4) then some ((r.drop 8).take (beNat (r.take 4)), r.drop (8 + beNat (r.take 4))) else none
theorem nextF_some {r c r' : List UInt8} (h : nextF r = some (c, r')) : 8 ≤ r.length ∧ c.length = beNat (r.take 4) ∧ c.length ≤ 65536 ∧ 8 + c.length ≤ r.length ∧ r' = r.drop (8 + c.length) ∧ c = (r.drop 8).take c.length := by
 unfold nextF at h
 split at h
 ·cases h
 ·split at h
  ·cases h
  ·split at h
   ·rename_i h1 h2 h3
    cases h
    have hl : (List.take (beNat (List.take 4 r)) (List.drop 8 r)).length = beNat (r.take 4) := by simp; omega
    rw [hl]
    exact ⟨by omega, rfl, by omega, by omega, rfl, rfl⟩
   ·cases h
theorem nextF_lt {r c r' : List UInt8} (h : nextF r = some (c, r')) : r'.length < r.length := by
 obtain ⟨h1, _, _, h4, rfl, _⟩ := nextF_some h
 simp; omega
theorem nextF_frame {c : List UInt8} (h : c.length ≤ 65536) (r : List UInt8) : nextF (frameB c ++ r) = some (c, r) := by
 have e1 : (frameB c ++ r).take 4 = be32 c.length := by simp [frameB, be32_length, List.take_append]; rfl
 have e2 : (frameB c ++ r).drop 8 = c ++ r := by
  rw [frameB, List.append_assoc, List.append_assoc, show 8 = 4 + 4 from rfl, ← List.drop_drop, List.drop_append_of_le_length (by simp [be32_length])]
  simp [be32]
 have e3 : ((frameB c ++ r).drop 4).take 4 = be32 (crcSum c) := by
  simp [frameB, be32]
 have hn : beNat (be32 c.length) = c.length := beNat_be32 (by omega)
 have hs : beNat (be32 (crcSum c)) = crcSum c := beNat_be32 (crcSum_lt c)
 have hl : (frameB c ++ r).length = 8 + c.length + r.length := by simp [frameB_length]
 have e4 : (frameB c ++ r).drop (8 + c.length) = r := by rw [← List.drop_drop, e2]; simp
 unfold nextF
 rw [e1, e2, e3, hn, hs, e4, if_neg (by omega), if_neg (by omega)]
 simp
theorem nextF_part {c : List UInt8} (h : c.length ≤ 65536) {k : Nat} (hk : k < 8 + c.length) : nextF ((frameB c).take k) = none := by
 have hl : ((frameB c).take k).length = k := by simp [frameB_length]; omega
 unfold nextF
 by_cases h8 : k < 8
 ·rw [hl, if_pos h8]
 ·have e1 : ((frameB c).take k).take 4 = be32 c.length := by
   rw [List.take_take, show min 4 k = 4 by omega]
   simp [frameB, be32_length, List.take_append]; rfl
  have hn : beNat (be32 c.length) = c.length := beNat_be32 (by omega)
  rw [hl, e1, hn, if_neg h8, if_pos (by omega)]
theorem nextF_nil : nextF [] = none := by simp [nextF]
def allF (r : List UInt8) : List (List UInt8) × Nat :=
 match h : nextF r with
 | none => ([], 0)
 | some (c, r') => (c :: (allF r').1, 8 + c.length + (allF r').2)
termination_by r.length
decreasing_by all_goals exact nextF_lt h
theorem allF_none {r : List UInt8} (h : nextF r = none) : allF r = ([], 0) := by
 rw [allF]; split
 ·rfl
 ·rename_i h'; rw [h] at h'; cases h'
theorem allF_some {r c r' : List UInt8} (h : nextF r = some (c, r')) : allF r = (c :: (allF r').1, 8 + c.length + (allF r').2) := by
 rw [allF]; split
 ·rename_i h'; rw [h] at h'; cases h'
 ·rename_i h'; rw [h] at h'; cases h'; rfl
theorem allF_frames : ∀ (l : List (List UInt8)), (∀ c ∈ l, c.length ≤ 65536) → ∀ r, allF (framesB l ++ r) = (l ++ (allF r).1, (framesB l).length + (allF r).2)
 | [], _, r => by simp [framesB]
 | c :: l, h, r => by
  have hc := h c (List.mem_cons_self ..)
  have e : framesB (c :: l) ++ r = frameB c ++ (framesB l ++ r) := by simp [framesB]
  rw [e, allF_some (nextF_frame hc _), allF_frames l (fun x hx => h x (List.mem_cons_of_mem _ hx)) r]
  simp [framesB, frameB_length]
  omega
theorem allF_only {l : List (List UInt8)} (h : ∀ c ∈ l, c.length ≤ 65536) : allF (framesB l) = (l, (framesB l).length) := by
 have := allF_frames l h []
 rw [List.append_nil, allF_none nextF_nil] at this
 simpa using this
theorem allF_le : ∀ (k : Nat) (r : List UInt8), r.length ≤ k → (allF r).2 ≤ r.length := by
 intro k
 induction k with
 | zero => intro r hr; rw [List.length_eq_zero_iff.1 (by omega : r.length = 0), allF_none nextF_nil]; exact Nat.le_refl _
 | succ k ih =>
  intro r hr
  cases h : nextF r with
  | none => rw [allF_none h]; exact Nat.zero_le _
  | some p =>
   obtain ⟨c, r'⟩ := p
   have hlt := nextF_lt h
   obtain ⟨h1, _, _, h4, e, _⟩ := nextF_some h
   have := ih r' (by omega)
   rw [allF_some h]
   have hl : r'.length = r.length - (8 + c.length) := by rw [e]; simp
   simp only
   omega
theorem framesB_snoc (l : List (List UInt8)) (c : List UInt8) : framesB (l ++ [c]) = framesB l ++ frameB c := by simp [framesB]
end Go.Proofs.YtlfikhblmbidmaaGreatDoor
namespace Go.Proofs.YtlfikhblmbidmaaGreatDoor
open Go.RowKit Go.Maps
theorem bcell {W w1 : World} (hb : Below W.heap.size W w1) {p : Addr} {v : Value} (h : W.cell? p = some v) : w1.cell? p = some v := by
 obtain ⟨o, ho, _⟩ := cells_of_cell h
 exact (hb.cell (Array.getElem?_eq_some_iff.1 ho).1).trans h
theorem take_snoc {α : Type} {L : List α} {i : Nat} {x : α} (h : L[i]? = some x) : L.take (i + 1) = L.take i ++ [x] := by
 rw [List.take_add_one, h]; rfl
theorem bchain {a b c : World} (h : Below a.heap.size a b) (k : Below b.heap.size b c) : Below a.heap.size a c := h.trans (k.mono h.size)
theorem Fr.upB {S : Nat → Prop} {W a b : World} (h : Below W.heap.size W a) (k : Fr S a b) (hS : ∀ i, S i → W.heap.size ≤ i) : Below W.heap.size W b := h.trans (k.below h.size hS)
theorem below_drewN {B : Nat} {a w : World} (h : Below B a w) (n : Nat) : Below B a (w.drewN n) := ⟨h.os, h.tape, h.output, h.size, h.block⟩
section
variable {β : Type} (f : Int → β → Value)
def encF (L : List (Int × β)) : List (Int × Value) := L.map fun p => (p.1, f p.1 p.2)
theorem encF_length (L : List (Int × β)) : (encF f L).length = L.length := by simp [encF]
theorem get_encF (k : Int) : ∀ L : List (Int × β), get k (encF f L) = (get k L).map (f k)
 | [] => rfl
 | y :: r => by
  have ih := get_encF k r
  simp only [get, encF, List.map_cons, List.find?_cons] at ih ⊢
  by_cases e : y.1 = k
  ·subst e; simp
  ·have e2 : (y.1 == k) = false := by simpa using e
   rw [e2]
   exact ih
theorem del_encF (k : Int) (L : List (Int × β)) : del k (encF f L) = encF f (del k L) := by
 unfold del encF
 rw [List.filter_map]
 rfl
theorem insS_encF (x : Int × β) : ∀ L : List (Int × β), insS (x.1, f x.1 x.2) (encF f L) = encF f (insS x L)
 | [] => rfl
 | y :: r => by
  have ih := insS_encF x r
  simp only [encF, List.map_cons, insS] at ih ⊢
  split
  ·rfl
  ·simp only [List.map_cons]; rw [ih]
theorem put_encF (k : Int) (v : β) (L : List (Int × β)) : put k (f k v) (encF f L) = encF f (put k v L) := by
 unfold put
 rw [del_encF, insS_encF f (k, v)]
end
section
variable {P : Program} (w : World) {ops : Array Oper} {rest : List Oper} {o : Oper} {a : Act} {Q : Exit → Act → World → Prop}
theorem wpList_next_encF {β : Type} (f : Int → β → Value) (hg : o.guard = none) (it : Operand) (hop : o.op = Op.next it false) (k : TypeId) (hk : P.underlying k = some (.int .i64))
  (b r n : Nat) (L : List (Int × β)) (left : Lit → Bool) (cnt : Nat) (hit : a.eval it = .pointer (some ⟨r, 0, none⟩)) (h : w.ranges P k RV b r n (dat (encF f L)) left cnt)
  (hDone : cnt = 0 → (∀ kl, left kl = false) → wpList P ops Q rest (a.put o.dst (.tuple #[.bool false])) w)
  (hMore : ∀ (x : Int) (e : β) (w' : World) (cnt' : Nat), (Lit.int .i64 x).wf = true → left (.int .i64 x) = true → get x L = some e → w'.ranges P k RV b r n (dat (encF f L)) (fun z => left z && !z.sameKey (.int .i64 x)) cnt' → cnt' < cnt →
   w.grownBy w' (some r) → w'.heap.size = w.heap.size → (Instr.entry (.pointer (some ⟨r, 0, none⟩))).run P w' = .ok (.tuple #[.int .i64 x, f x e]) w' → wpList P ops Q rest (a.put o.dst (.tuple #[.bool true, .int .i64 x, f x e])) w') :
  wpList P ops Q (o :: rest) a w := by
 refine wpList_plain hg fun K' hK' => ?_
 unfold Oper.wp
 rcases h.next (int_keyed hk) o.type with ⟨h0, hl, hrun⟩ | ⟨key, v, kl, y, w', cnt', hkey, hlk, hv, hat, hrun, hrg, hlt, hgr, hsz, hen⟩
 ·simp [execOp, hop, hit, hrun, Result.andThen]
  exact hK' _ _ (hDone h0 hl)
 ·obtain ⟨x, rfl, rfl, hwx⟩ := Maps.keyOf_int_inv hk hkey
  have hy : y = (.held v, []) := by simpa [RV] using hv.symm
  subst hy
  have h1 := hat (.held (.bool true))
  have h2 := hat (.held (.bool false))
  rw [dat_atKey, get_encF] at h1 h2
  cases hq : get x L with
  | none => rw [hq] at h1 h2; simp at h1 h2; rw [← h1] at h2; simp at h2
  | some e =>
   rw [hq] at h1
   simp at h1
   subst h1
   simp [execOp, hop, hit, hrun, Result.andThen]
   exact hK' _ _ (hMore x e w' cnt' hwx hlk hq hrg hlt hgr hsz hen)
end
section
variable {P : Program} {ops : Array Oper} {Q : Exit → Act → World → Prop} {md : Region.Mode} {S : World → Prop}
theorem held_yes {i : Nat} (d : Option Tmp) {oi : Oper} {v : Value} {fuel : Nat} {listed : Array Bool} {a : Act} {w : World} (hi : ops[i]? = some oi) (hd : oi.dst = d)
  (hs : Region.noSelect ops = true) (hf : Region.free md ops listed i = true) (hr : (Region.ready md ops listed).contains i = true)
  (hQ : ∀ c a w, Q (.panic c) (a.put d v) w → Q (.panic c) a w) (hg : Region.wanted oi (yielded ops a.tmps) = true)
  (hv : ∀ w, S w → (execOp a.eval oi).run P w = .ok (.value v) w) (hS : S w)
  (h : wpAnyH P md ops Q S fuel (listed.setIfInBounds i true) (a.put d v) w) : wpAnyH P md ops Q S (fuel + 1) listed a w := by
 subst hd
 exact wpAnyH_take hi hs hf hr hQ (Or.inl ⟨hg, hv⟩) hS h
theorem held_no {i : Nat} (d : Option Tmp) {oi : Oper} {fuel : Nat} {listed : Array Bool} {a : Act} {w : World} (hi : ops[i]? = some oi) (hd : oi.dst = d)
  (hs : Region.noSelect ops = true) (hf : Region.free md ops listed i = true) (hr : (Region.ready md ops listed).contains i = true)
  (hQ : ∀ c a w, Q (.panic c) (a.put d undef) w → Q (.panic c) a w) (hg : Region.wanted oi (yielded ops a.tmps) = false) (hS : S w)
  (h : wpAnyH P md ops Q S fuel (listed.setIfInBounds i true) (a.put d undef) w) : wpAnyH P md ops Q S (fuel + 1) listed a w := by
 subst hd
 exact wpAnyH_take hi hs hf hr hQ (Or.inr ⟨hg, rfl⟩) hS h
theorem hY (i : Nat) (d : Option Tmp) {oi : Oper} {v : Value} {fuel : Nat} {listed : Array Bool} {a a' : Act} {w : World} (hS : S w)
  (h : wpAnyH P md ops Q S fuel (listed.setIfInBounds i true) a' w) (hi : ops[i]? = some oi := by rfl) (hd : oi.dst = d := by rfl)
  (hs : Region.noSelect ops = true := by kernel_rfl) (hf : Region.free md ops listed i = true := by kernel_rfl) (hr : (Region.ready md ops listed).contains i = true := by kernel_rfl)
  (hQ : ∀ c a w, Q (.panic c) (a.put d v) w → Q (.panic c) a w := by exact fun _ _ _ h => h) (hg : Region.wanted oi (yielded ops a.tmps) = true := by rfl)
  (hv : ∀ w, S w → (execOp a.eval oi).run P w = .ok (.value v) w := by (intro w hSw; (try dsimp only at hSw); go_simp; all_goals with_reducible rfl))
  (ha : a.put d v = a' := by first | (simp only [Act.put, List.setIfInBounds_toArray, List.set_cons_zero, List.set_cons_succ]; done) | (simp only [Act.put, List.setIfInBounds_toArray, List.set_cons_zero, List.set_cons_succ]; rfl) | rfl) : wpAnyH P md ops Q S (fuel + 1) listed a w := by
 subst ha
 exact held_yes d hi hd hs hf hr hQ hg hv hS h
theorem hN (i : Nat) (d : Option Tmp) {oi : Oper} {fuel : Nat} {listed : Array Bool} {a a' : Act} {w : World} (hg : Region.wanted oi (yielded ops a.tmps) = false) (hS : S w)
  (h : wpAnyH P md ops Q S fuel (listed.setIfInBounds i true) a' w) (hi : ops[i]? = some oi := by rfl) (hd : oi.dst = d := by rfl)
  (hs : Region.noSelect ops = true := by kernel_rfl) (hf : Region.free md ops listed i = true := by kernel_rfl) (hr : (Region.ready md ops listed).contains i = true := by kernel_rfl)
  (hQ : ∀ c a w, Q (.panic c) (a.put d undef) w → Q (.panic c) a w := by exact fun _ _ _ h => h)
  (ha : a.put d undef = a' := by first | (simp only [Act.put, List.setIfInBounds_toArray, List.set_cons_zero, List.set_cons_succ]; done) | (simp only [Act.put, List.setIfInBounds_toArray, List.set_cons_zero, List.set_cons_succ]; rfl) | rfl) : wpAnyH P md ops Q S (fuel + 1) listed a w := by
 subst ha
 exact held_no d hi hd hs hf hr hQ hg hS h
theorem wanted_t {ops : Array Oper} {tmps : Array Value} {o : Oper} {j d : Nat} (hg : o.guard = some (j, true)) (hd : ((ops[j]?).bind (·.dst)) = some d) (ht : tmps[d]? = some (.bool false)) : Region.wanted o (yielded ops tmps) = false := by
 unfold Region.wanted yielded
 simp [hg, hd, ht]
theorem wanted_f {ops : Array Oper} {tmps : Array Value} {o : Oper} {j d : Nat} (hg : o.guard = some (j, false)) (hd : ((ops[j]?).bind (·.dst)) = some d) (ht : tmps[d]? = some (.bool true)) : Region.wanted o (yielded ops tmps) = false := by
 unfold Region.wanted yielded
 simp [hg, hd, ht]
end
end Go.Proofs.YtlfikhblmbidmaaGreatDoor
namespace Go.Proofs.YtlfikhblmbidmaaGreatDoor
abbrev VL := List (Int × ByteArray)
structure LogSt where
 base : Int
 upto : Int
 top : Int
 L : VL
def missing (L : VL) (u : Int) : Nat → Int
 | 0 => u
 | n + 1 => if (get u L).isSome then missing L (u + 1) n else u
theorem missing_ge (L : VL) : ∀ (n : Nat) (u : Int), u ≤ missing L u n ∧ missing L u n ≤ u + n
 | 0, u => by simp [missing]
 | n + 1, u => by
  have := missing_ge L n (u + 1)
  unfold missing
  split <;> omega
theorem missing_has (L : VL) : ∀ (n : Nat) (u i : Int), u ≤ i → i < missing L u n → (get i L).isSome = true
 | 0, u, i, h1, h2 => by simp [missing] at h2; omega
 | n + 1, u, i, h1, h2 => by
  unfold missing at h2
  split at h2
  ·rename_i h
   by_cases e : i = u
   ·rw [e]; exact h
   ·exact missing_has L n (u + 1) i (by omega) h2
  ·omega
theorem missing_none (L : VL) : ∀ (n : Nat) (u : Int), missing L u n < u + n → get (missing L u n) L = none
 | 0, u, h => by simp [missing] at h
 | n + 1, u, h => by
  unfold missing at h ⊢
  split
  ·rename_i h1
   rw [if_pos h1] at h
   exact missing_none L n (u + 1) (by omega)
  ·rename_i h1
   simpa using h1
def lfill (s : LogSt) : LogSt := { s with upto := missing s.L s.upto (s.top - s.upto).toNat }
def newLog : LogSt := ⟨0, 0, 0, []⟩
def lputE (s : LogSt) (k : Int) (v : ByteArray) : Int :=
 if k < 0 ∨ 4096 ≤ k then 2 else if 65536 < v.size then 11 else if k < s.base then 8 else if (get k s.L).isSome = true ∧ get k s.L ≠ some v then 9 else 0
def lputS (s : LogSt) (k : Int) (v : ByteArray) : LogSt := if lputE s k v = 0 then lfill { s with L := put k v s.L, top := max s.top (k + 1) } else s
def lcut (s : LogSt) (u : Int) : LogSt := lfill { base := u, upto := max s.upto u, top := max s.top u, L := s.L.filter fun p => !decide (p.1 < u) }
def lforE (s : LogSt) (u : Int) : Int := if u < 0 ∨ 4096 < u then 2 else if s.upto < u then 3 else 0
def lforS (s : LogSt) (u : Int) : LogSt := if lforE s u = 0 ∧ s.base < u then lcut s u else s
def ljmpE (s : LogSt) (u : Int) : Int := if u < 0 ∨ 4096 < u then 2 else if u < s.upto then 8 else 0
def ljmpS (s : LogSt) (u : Int) : LogSt := if ljmpE s u = 0 then lcut s u else s
def lpre (L : VL) (u : Int) : Nat → List ByteArray
 | 0 => []
 | n + 1 => match get u L with
  | some v => v :: lpre L (u + 1) n
  | none => []
def lprefix (s : LogSt) : List ByteArray := lpre s.L s.base (s.top - s.base).toNat
def lgapsF (L : VL) (u : Int) : Nat → List Int
 | 0 => []
 | n + 1 => (if (get u L).isSome then [] else [u]) ++ lgapsF L (u + 1) n
def lgaps (s : LogSt) : List Int := lgapsF s.L s.upto (s.top - s.upto).toNat
structure LGood (s : LogSt) : Prop where
 b0 : 0 ≤ s.base
 bu : s.base ≤ s.upto
 ut : s.upto ≤ s.top
 t1 : s.top ≤ 4096
 srt : Srt s.L
 keys : ∀ p ∈ s.L, s.base ≤ p.1 ∧ p.1 < s.top
 size : ∀ p ∈ s.L, p.2.size ≤ 65536
 has : ∀ i, s.base ≤ i → i < s.upto → (get i s.L).isSome = true
 gap : get s.upto s.L = none
 last : s.top = s.base ∨ (get (s.top - 1) s.L).isSome = true
structure LPre (s : LogSt) : Prop where
 b0 : 0 ≤ s.base
 bu : s.base ≤ s.upto
 ut : s.upto ≤ s.top
 t1 : s.top ≤ 4096
 srt : Srt s.L
 keys : ∀ p ∈ s.L, s.base ≤ p.1 ∧ p.1 < s.top
 size : ∀ p ∈ s.L, p.2.size ≤ 65536
 has : ∀ i, s.base ≤ i → i < s.upto → (get i s.L).isSome = true
 last : s.top = s.base ∨ (get (s.top - 1) s.L).isSome = true
theorem get_top {s : LogSt} (hk : ∀ p ∈ s.L, s.base ≤ p.1 ∧ p.1 < s.top) {i : Int} (h : s.top ≤ i) : get i s.L = none :=
 get_none.2 fun p hp e => by have := (hk p hp).2; omega
theorem LPre.fill {s : LogSt} (h : LPre s) : LGood (lfill s) := by
 have hm := missing_ge s.L (s.top - s.upto).toNat s.upto
 have h1 := h.ut
 have h2 := h.bu
 refine ⟨h.b0, ?_, ?_, h.t1, h.srt, h.keys, h.size, ?_, ?_, h.last⟩
 ·show s.base ≤ missing s.L s.upto _; omega
 ·show missing s.L s.upto _ ≤ s.top; omega
 ·intro i hi hlt
  by_cases hu : i < s.upto
  ·exact h.has i hi hu
  ·exact missing_has s.L _ s.upto i (by omega) hlt
 ·show get (missing s.L s.upto _) s.L = none
  by_cases hlt : missing s.L s.upto (s.top - s.upto).toNat < s.upto + ((s.top - s.upto).toNat : Int)
  ·exact missing_none s.L _ _ hlt
  ·exact get_top h.keys (by omega)
theorem LGood.new : LGood newLog := ⟨by decide, by decide, by decide, by decide, List.Pairwise.nil, fun p hp => by simp [newLog] at hp, fun p hp => by simp [newLog] at hp, fun i h1 h2 => by simp [newLog] at h1 h2; omega, rfl, .inl rfl⟩
theorem lputE_zero {s : LogSt} {k : Int} {v : ByteArray} : lputE s k v = 0 ↔ 0 ≤ k ∧ k < 4096 ∧ v.size ≤ 65536 ∧ s.base ≤ k ∧ ((get k s.L).isSome = true → get k s.L = some v) := by
 unfold lputE
 by_cases h1 : k < 0 ∨ 4096 ≤ k
 ·rw [if_pos h1]; constructor
  ·intro h; cases h
  ·intro h; omega
 by_cases h2 : 65536 < v.size
 ·rw [if_neg h1, if_pos h2]; constructor
  ·intro h; cases h
  ·intro h; omega
 by_cases h3 : k < s.base
 ·rw [if_neg h1, if_neg h2, if_pos h3]; constructor
  ·intro h; cases h
  ·intro h; omega
 rw [if_neg h1, if_neg h2, if_neg h3]
 by_cases h4 : (get k s.L).isSome = true ∧ get k s.L ≠ some v
 ·rw [if_pos h4]; constructor
  ·intro h; cases h
  ·intro h; exact absurd (h.2.2.2.2 h4.1) h4.2
 ·rw [if_neg h4]
  refine ⟨fun _ => ⟨by omega, by omega, by omega, by omega, fun h => ?_⟩, fun _ => rfl⟩
  exact Classical.byContradiction fun hne => h4 ⟨h, hne⟩
theorem LGood.put_pre {s : LogSt} (h : LGood s) {k : Int} {v : ByteArray} (he : lputE s k v = 0) : LPre { s with L := put k v s.L, top := max s.top (k + 1) } := by
 obtain ⟨h0, h1, h2, h3, h4⟩ := lputE_zero.1 he
 have hu := h.ut
 have hb := h.bu
 have ht := h.t1
 have hg : ∀ i, (get i s.L).isSome = true → (get i (put k v s.L)).isSome = true := fun i hi => by
  by_cases e : i = k
  ·rw [e, get_put_same h.srt]; rfl
  ·rw [get_put_other h.srt e]; exact hi
 refine ⟨h.b0, h.bu, by show s.upto ≤ max s.top (k + 1); omega, by show max s.top (k + 1) ≤ 4096; omega, srt_put h.srt, fun p hp => ?_, fun p hp => ?_, fun i hi hlt => hg i (h.has i hi hlt), ?_⟩
 ·show s.base ≤ p.1 ∧ p.1 < max s.top (k + 1)
  rcases mem_put.1 hp with rfl | ⟨hp, _⟩
  ·show s.base ≤ k ∧ k < max s.top (k + 1)
   omega
  ·have := h.keys p hp; omega
 ·rcases mem_put.1 hp with rfl | ⟨hp, _⟩
  ·exact h2
  ·exact h.size p hp
 ·right
  show (get (max s.top (k + 1) - 1) (put k v s.L)).isSome = true
  by_cases hk : s.top ≤ k + 1
  ·rw [show max s.top (k + 1) - 1 = k by omega, get_put_same h.srt]; rfl
  ·rw [show max s.top (k + 1) = s.top by omega]
   rcases h.last with e | e
   ·omega
   ·exact hg _ e
theorem LGood.put {s : LogSt} (h : LGood s) (k : Int) (v : ByteArray) : LGood (lputS s k v) := by
 unfold lputS
 split
 ·rename_i he; exact (h.put_pre he).fill
 ·exact h
theorem get_cut {L : VL} (h : Srt L) {u k : Int} (hk : u ≤ k) : get k (L.filter fun p => !decide (p.1 < u)) = get k L := by
 cases hg : get k L with
 | none => exact get_none.2 fun p hp => get_none.1 hg p (List.mem_filter.1 hp).1
 | some v => exact get_of_mem (List.Pairwise.filter _ h) (List.mem_filter.2 ⟨get_mem hg, by simp; exact hk⟩)
theorem LGood.cut_pre {s : LogSt} (h : LGood s) {u : Int} (h1 : u ≤ 4096) (h2 : s.upto ≤ u ∨ s.base < u) : LPre { base := u, upto := max s.upto u, top := max s.top u, L := s.L.filter fun p => !decide (p.1 < u) } := by
 have hu := h.ut
 have hb := h.bu
 have ht := h.t1
 have hb0 := h.b0
 refine ⟨by show 0 ≤ u; omega, by show u ≤ max s.upto u; omega, by show max s.upto u ≤ max s.top u; omega, by show max s.top u ≤ 4096; omega, List.Pairwise.filter _ h.srt, fun p hp => ?_, fun p hp => h.size p (List.mem_filter.1 hp).1, fun i hi hlt => ?_, ?_⟩
 ·show u ≤ p.1 ∧ p.1 < max s.top u
  obtain ⟨h3, h4⟩ := List.mem_filter.1 hp
  have := h.keys p h3
  simp at h4
  omega
 ·show (get i (s.L.filter _)).isSome = true
  have hi : u ≤ i := hi
  have hlt : i < max s.upto u := hlt
  rw [get_cut h.srt hi]
  exact h.has i (by omega) (by omega)
 ·show max s.top u = u ∨ (get (max s.top u - 1) (s.L.filter _)).isSome = true
  by_cases hk : s.top ≤ u
  ·left; omega
  ·right
   rw [show max s.top u = s.top by omega, get_cut h.srt (by omega)]
   rcases h.last with e | e
   ·omega
   ·exact e
theorem LGood.forg {s : LogSt} (h : LGood s) (u : Int) : LGood (lforS s u) := by
 unfold lforS
 split
 ·rename_i he
  have h4 : u ≤ 4096 := by
   have := he.1
   unfold lforE at this
   split at this
   ·cases this
   ·omega
  exact (h.cut_pre h4 (.inr he.2)).fill
 ·exact h
theorem LGood.jump {s : LogSt} (h : LGood s) (u : Int) : LGood (ljmpS s u) := by
 unfold ljmpS
 split
 ·rename_i he
  unfold ljmpE at he
  split at he
  ·cases he
  ·split at he
   ·cases he
   ·exact (h.cut_pre (by omega) (.inl (by omega))).fill
 ·exact h
end Go.Proofs.YtlfikhblmbidmaaGreatDoor
namespace Go.Proofs.YtlfikhblmbidmaaGreatDoor
open Go.RowKit
abbrev balV (r d : Int) : Value := .agg #[.int .i64 r, .int .i64 d]
def cmpI (x y : Int) : Int := if x < y then -1 else if x > y then 1 else 0
def firstI (x y : Int) : Int := if x = 0 then y else x
def ordB (a b : Int × Int) : Int := firstI (cmpI a.1 b.1) (cmpI a.2 b.2)
def chkE (n r d : Int) : Int := if n < 1 ∨ 7 < n then 2 else if r = 0 ∧ d = 0 then 0 else if r < 1 ∨ 1073741824 < r ∨ d < 0 ∨ n ≤ d then 2 else 0
theorem eqBal (a b c d : Int) (w : World) : (Op.equalIn 10000 24 (.agg #[.int .i64 a, .int .i64 b]) (.agg #[.int .i64 c, .int .i64 d])).run Tryz.prog w = .ok (a == c && b == d) w := by
 have u3 := Tryz.underlying3
 have a3 := Tryz.isAgg3
 have z3 := Tryz.sizeOf3
 have hS : Tryz.prog.underlying 24 = some (.struct (Tryz.prog.fieldsOf 24)) := by kernel_rfl
 have hp : Tryz.prog.stoodInHeld 24 = false := by kernel_rfl
 rw [show (10000 : Nat) = 9999 + 1 from rfl, run_equalIn_agg w 9999 24 _ _ hS hp]
 simp only [Program.fieldsOf, Tryz.underlying24]
 go_simp
 by_cases h1 : a = c <;> by_cases h2 : b = d <;> simp [h1, h2]
theorem eqGBal : Tryz.prog.eqGuardType Tryz.prog.depth 24 = false := by kernel_rfl
theorem bldBal0 (w : World) : (Instr.build 24 #[]).run Tryz.prog w = .ok (balV 0 0) w := run_build w 24 _ _ (by kernel_rfl)
theorem box_below (w : World) (o : Obj) : Below w.heap.size w (w.alloc o) := (Below.refl _ _).alloc (Nat.le_refl _) _
theorem check_any (r d n : Int) (w : World) :
  Calls Tryz.prog 149 #[balV r d, .int .i64 n] w fun e w' => e = .returned (.int .i64 (chkE n r d)) ∧ Below w.heap.size w w' := by
 have hE := fun (a b c d : Int) (w : World) => eqBal a b c d w
 have hG := eqGBal
 have hB0 := fun w => bldBal0 w
 have hb := box_below w (.cells #[.int .i64 r, .int .i64 d] 24)
 by_cases h1 : n < 1
 ·have E : chkE n r d = 2 := by simp [chkE, h1]
  rw [E]; clear E
  go_enter Tryz.func149, Tryz.ntmps149
  go_wp2_with fail
  go_ret
  exact ⟨rfl, hb⟩
 by_cases h2 : 7 < n
 ·have E : chkE n r d = 2 := by simp [chkE, h2]
  have h1' : decide (n < 1) = false := by simpa using h1
  rw [E]; clear E h1
  go_enter Tryz.func149, Tryz.ntmps149
  go_wp2_with fail
  go_ret
  exact ⟨rfl, hb⟩
 have h1' : decide (n < 1) = false := by simpa using h1
 have h2' : decide (n > 7) = false := by simpa using h2
 by_cases h3 : r = 0 ∧ d = 0
 ·have E : chkE n r d = 0 := by simp [chkE, h1, h2, h3]
  obtain ⟨rfl, rfl⟩ := h3
  rw [E]; clear E h1 h2
  go_enter Tryz.func149, Tryz.ntmps149
  go_wp2_with fail
  go_ret
  exact ⟨rfl, hb⟩
 have h3' : (r == 0 && d == 0) = false := by
  by_cases e : r = 0
  ·by_cases e2 : d = 0
   ·exact absurd ⟨e, e2⟩ h3
   ·simp [e2]
  ·simp [e]
 by_cases h4 : r < 1
 ·have E : chkE n r d = 2 := by simp only [chkE, if_neg (show ¬ (n < 1 ∨ 7 < n) by omega), if_neg h3, if_pos (show r < 1 ∨ 1073741824 < r ∨ d < 0 ∨ n ≤ d by omega)]
  rw [E]; clear E h1 h2 h3
  go_enter Tryz.func149, Tryz.ntmps149
  go_wp2_with fail
  go_ret
  exact ⟨rfl, hb⟩
 have h4' : decide (r < 1) = false := by simpa using h4
 by_cases h5 : r > 1073741824
 ·have E : chkE n r d = 2 := by simp only [chkE, if_neg (show ¬ (n < 1 ∨ 7 < n) by omega), if_neg h3, if_pos (show r < 1 ∨ 1073741824 < r ∨ d < 0 ∨ n ≤ d by omega)]
  rw [E]; clear E h1 h2 h3 h4
  go_enter Tryz.func149, Tryz.ntmps149
  go_wp2_with fail
  go_ret
  exact ⟨rfl, hb⟩
 have h5' : decide (r > 1073741824) = false := by simpa using h5
 by_cases h6 : d < 0
 ·have E : chkE n r d = 2 := by simp only [chkE, if_neg (show ¬ (n < 1 ∨ 7 < n) by omega), if_neg h3, if_pos (show r < 1 ∨ 1073741824 < r ∨ d < 0 ∨ n ≤ d by omega)]
  rw [E]; clear E h1 h2 h3 h4 h5
  go_enter Tryz.func149, Tryz.ntmps149
  go_wp2_with fail
  go_ret
  exact ⟨rfl, hb⟩
 have h6' : decide (d < 0) = false := by simpa using h6
 by_cases h7 : d ≥ n
 ·have E : chkE n r d = 2 := by simp only [chkE, if_neg (show ¬ (n < 1 ∨ 7 < n) by omega), if_neg h3, if_pos (show r < 1 ∨ 1073741824 < r ∨ d < 0 ∨ n ≤ d by omega)]
  rw [E]; clear E h1 h2 h3 h4 h5 h6
  go_enter Tryz.func149, Tryz.ntmps149
  go_wp2_with fail
  go_ret
  exact ⟨rfl, hb⟩
 have h7' : decide (d ≥ n) = false := by simpa using h7
 have E : chkE n r d = 0 := by simp only [chkE, if_neg (show ¬ (n < 1 ∨ 7 < n) by omega), if_neg h3, if_neg (show ¬ (r < 1 ∨ 1073741824 < r ∨ d < 0 ∨ n ≤ d) by omega)]
 rw [E]; clear E h1 h2 h3 h4 h5 h6 h7
 go_enter Tryz.func149, Tryz.ntmps149
 go_wp2_with fail
 go_ret
 exact ⟨rfl, hb⟩
theorem cmpnan (x : Int) (w : World) : Calls Tryz.prog 215 #[.int .i64 x] w fun e w' => e = .returned (.bool false) ∧ w = w' := by
 go_enter Tryz.func215, Tryz.ntmps215
 go_wp2
 go_ret
 exact ⟨by simp, rfl⟩
theorem compare_any (x y : Int) (w : World) : Calls Tryz.prog 184 #[.int .i64 x, .int .i64 y] w fun e w' => e = .returned (.int .i64 (cmpI x y)) ∧ w = w' := by
 by_cases h1 : x < y
 ·have E : cmpI x y = -1 := by simp [cmpI, h1]
  rw [E]
  go_enter Tryz.func184, Tryz.ntmps184
  go_wp2_with (go_at_call 215; refine (cmpnan _ _).mono ?_; rintro e w' ⟨rfl, rfl⟩)
  go_ret
  exact ⟨rfl, rfl⟩
 by_cases h2 : x > y
 ·have E : cmpI x y = 1 := by simp only [cmpI, if_neg h1, if_pos h2]
  have h1' : decide (x < y) = false := by simpa using h1
  rw [E]; clear h1 E
  go_enter Tryz.func184, Tryz.ntmps184
  go_wp2_with (go_at_call 215; refine (cmpnan _ _).mono ?_; rintro e w' ⟨rfl, rfl⟩)
  go_ret
  exact ⟨rfl, rfl⟩
 have E : cmpI x y = 0 := by simp only [cmpI, if_neg h1, if_neg h2]
 have h1' : decide (x < y) = false := by simpa using h1
 have h2' : decide (x > y) = false := by simpa using h2
 rw [E]; clear h1 h2 E
 go_enter Tryz.func184, Tryz.ntmps184
 go_wp2_with (go_at_call 215; refine (cmpnan _ _).mono ?_; rintro e w' ⟨rfl, rfl⟩)
 go_ret
 exact ⟨rfl, rfl⟩
set_option maxHeartbeats 400000 in
theorem first_two (g : Nat) (x y : Int) (w : World) (h0 : w.cell? ⟨g, 0, none⟩ = some (.int .i64 x)) (h1 : w.cell? ⟨g, 1, none⟩ = some (.int .i64 y)) :
  Calls Tryz.prog 183 #[.slice (some ⟨g, 0, none⟩) 2 2] w fun e w' => e = .returned (.int .i64 (firstI x y)) ∧ w = w' := by
 go_enter Tryz.func183, Tryz.ntmps183
 go_wp2
 go_loop [7] (fun c => ∃ i : Nat, i ≤ 2 ∧ c = .int .i64 i ∧ (1 ≤ i → x = 0) ∧ (2 ≤ i → y = 0)) (fun c => 2 - (intOf c).toNat)
 case atStart => exact ⟨0, by omega, rfl, fun h => by omega, fun h => by omega⟩
 case round =>
  obtain ⟨i, hi, rfl, hx, hy⟩ := hrel
  by_cases e2 : i = 2
  ·subst e2
   have x0 := hx (by omega)
   have y0 := hy (by omega)
   clear hx hy
   subst x0 y0
   go_wp2
   go_ret
   exact ⟨rfl, rfl⟩
  by_cases e1 : i = 1
  ·subst e1
   have x0 := hx (by omega)
   clear hx hy
   subst x0
   by_cases y0 : y = 0
   ·subst y0
    go_wp2
    go_round
    case rel => exact ⟨2, by omega, by go_num, by simp, by simp⟩
    case measure => simp [intOf]
   ·have y0' : ((y : Int) == 0) = false := by simpa using y0
    go_wp2
    go_ret
    exact ⟨rfl, rfl⟩
  have e0 : i = 0 := by omega
  subst e0
  clear hx hy
  by_cases x0 : x = 0
  ·subst x0
   go_wp2
   go_round
   case rel => exact ⟨1, by omega, by go_num, by simp, by omega⟩
   case measure => simp [intOf]
  ·have x0' : ((x : Int) == 0) = false := by simpa using x0
   go_wp2
   go_ret
   exact ⟨by simp [firstI, x0], rfl⟩
set_option maxHeartbeats 1000000 in
theorem order_any (r1 d1 r2 d2 : Int) (w : World) :
  Calls Tryz.prog 121 #[balV r1 d1, balV r2 d2] w fun e w' => e = .returned (.int .i64 (ordB (r1, d1) (r2, d2))) ∧ Below w.heap.size w w' := by
 go_enter Tryz.func121, Tryz.ntmps121
 go_wp2_with fail
 have b1 : Blk ((w.alloc (.cells #[.int .i64 r1, .int .i64 d1] 24)).alloc (.cells #[.int .i64 r2, .int .i64 d2] 24)) w.heap.size 24 #[.int .i64 r1, .int .i64 d1] := (Blk.new w _ _).alloc _
 have b2 : Blk ((w.alloc (.cells #[.int .i64 r1, .int .i64 d1] 24)).alloc (.cells #[.int .i64 r2, .int .i64 d2] 24)) (w.heap.size + 1) 24 #[.int .i64 r2, .int .i64 d2] := by
  have := Blk.new (w.alloc (.cells #[.int .i64 r1, .int .i64 d1] 24)) 24 #[.int .i64 r2, .int .i64 d2]
  rwa [World.size_alloc] at this
 have hB : Below w.heap.size w ((w.alloc (.cells #[.int .i64 r1, .int .i64 d1] 24)).alloc (.cells #[.int .i64 r2, .int .i64 d2] 24)) := ((Below.refl _ _).alloc (Nat.le_refl _) _).alloc (by simp) _
 have hs : ((w.alloc (.cells #[.int .i64 r1, .int .i64 d1] 24)).alloc (.cells #[.int .i64 r2, .int .i64 d2] 24)).heap.size = w.heap.size + 2 := by simp
 try simp only [World.size_alloc]
 generalize ((w.alloc (.cells #[.int .i64 r1, .int .i64 d1] 24)).alloc (.cells #[.int .i64 r2, .int .i64 d2] 24)) = W1 at *
 obtain ⟨g, hg⟩ : ∃ g, g = w.heap.size := ⟨_, rfl⟩
 rw [← hg] at b1 b2 hB hs ⊢
 have k0 := b1.cell (i := 0) (v := .int .i64 r1) rfl
 have k1 := b1.cell (i := 1) (v := .int .i64 d1) rfl
 have k2 := b2.cell (i := 0) (v := .int .i64 r2) rfl
 have k3 := b2.cell (i := 1) (v := .int .i64 d2) rfl
 have HB := Lib.hid hB
 have HG := Lib.hid hg
 clear b1 b2 hB hg
 clear hs
 go_region_held3 (fun W => W.cell? ⟨g, 0, none⟩ = some (.int .i64 r1) ∧ W.cell? ⟨g, 1, none⟩ = some (.int .i64 d1) ∧ W.cell? ⟨g + 1, 0, none⟩ = some (.int .i64 r2) ∧ W.cell? ⟨g + 1, 1, none⟩ = some (.int .i64 d2))
  (first | exact ⟨by assumption, by assumption, by assumption, by assumption⟩ | go_keep)
  (first
   | (go_at_call 184; refine (compare_any _ _ _).mono ?_; rintro e w' ⟨rfl, rfl⟩)
   | (go_at_call 183; refine (first_two _ _ _ _ (by exact Blk.cell (Blk.new _ _ _) rfl) (by exact Blk.cell (Blk.new _ _ _) rfl)).mono ?_; rintro e w' ⟨rfl, rfl⟩))
 go_wp2_with fail
 go_ret
 have hB := HB.out
 rw [HG.out] at hB
 exact ⟨rfl, (hB.alloc hB.size _).drew⟩
end Go.Proofs.YtlfikhblmbidmaaGreatDoor
namespace Go.Proofs.YtlfikhblmbidmaaGreatDoor
open Go.RowKit
def SeqSt {α : Type} (F : Fence) (n : Nat) (P : Program) (g : Nat) (lb : Array Value) (encs : α → Array Value) (Kp St : World → World → Prop) (S : List α → Prop) (N : Nat) (w : World) : Prop :=
 ∀ (l : Nat) (J : List α → World → Prop) (W : World), Below w.heap.size w W → AbidesFrom W.heap.size J → (∀ pre X Y, St X Y → J pre X → J pre Y) →
  (∀ pre x W1, J pre W1 → pre.length < N → YieldAt F (n - 1) P l (encs x) W1 fun e W' => e = .returned (.bool true) ∧ J (pre ++ [x]) W' ∧ Kp W1 W') →
  J [] W →
  CallsIn F n P g (#[.func (.yield l) #[] #[]] ++ lb) W fun e W' => (∃ v, e = .returned v) ∧ ∃ xs, S xs ∧ J xs W'
variable {F : Fence} {n : Nat} {P : Program}
def stPost {α : Type} (B : Nat) (Kp : World → World → Prop) (I : List α → World → Prop) (xs : List α) (W : World) : Exit → Act → World → Prop
 | .normal, _, W' => KeepsFrom B W W' ∧ Kp W W' ∧ I xs W'
 | _, _, _ => False
theorem wpIn_rangeFunc_st {α : Type} {g : Operand} {ps : Array Tmp} {assign body : Code} {Q : Exit → Act → World → Prop} {a : Act} {w : World}
  (hro : F.round = none) (h1 : 1 ≤ n) {gf : Nat} {lb : Array Value} (hg : a.eval g = .func (.func gf) #[] lb) (hFg : F.fn gf) (eg : ∀ args w, (callFunc gf args).run P w = .ok (.enter gf args) w)
  {encs : α → Array Value} {Kp St : World → World → Prop} {S : List α → Prop} {N : Nat} {w0 : World} (hseq : SeqSt F (n - 1) P gf lb encs Kp St S N w0)
  (hSt : ∀ X Y, St X Y → ∀ (k : Nat) (o : Obj), w.heap.size ≤ k → X.heap[k]? = some o → o.isCells = false → Y.heap[k]? = some o)
  (hKt : ∀ {A B C : World}, Kp A B → Kp B C → Kp A C) (hKb : ∀ (W : World) (l : Nat) (o o' : Obj), w.heap.size ≤ l → W.heap[l]? = some o → o.isCells = false → o.isWalk = false → Kp W (W.putObj l o'))
  (hb0 : Below w0.heap.size w0 w) (hps : ∀ x, (encs x).size = ps.size)
  (I : List α → World → Prop) (hI : OwnFrom w.heap.size I) (hIs : ∀ pre X Y, St X Y → I pre X → I pre Y) (h0 : I [] w) (a₁ : α → Act)
  (hassign : ∀ (l : Nat) (x : α) (W : World) (K : Act → World → Prop), K (a₁ x) W →
   assign.wpIn (F.inRound l) (n - 1 - 1) P (Exit.then K (fun _ _ _ => False)) { tmps := (ps.zip (encs x)).foldl (fun t (p, v) => t.setIfInBounds p v) a.tmps, defers := [] } W)
  (hbody : ∀ (l : Nat) (pre : List α) (x : α) (W : World), I pre W → pre.length < N → body.wpIn (F.inRound l) (n - 1 - 1) P (stPost w.heap.size Kp I (pre ++ [x]) W) (a₁ x) W)
  (hdone : ∀ (D : Nat) (xs : List α) (W : World), w.heap.size ≤ D → S xs → I xs W → W.heap[D]? = some (.deferred (some [])) → Q .normal { a with defers := { target := .collected D, args := #[] } :: a.defers } W) :
  (Code.rangeFunc g ps assign body).wpIn F n P Q a w := by
 refine wpIn_rangeFunc ?_
 intro fn hfn
 rw [hro]
 obtain ⟨D0, hD0⟩ : ∃ D0, w.heap.size = D0 := ⟨_, rfl⟩
 obtain ⟨rec, hrec⟩ : ∃ rec : LoopState → Loop, rec = fun st => { state := st, pending := none, fn, tmps := a.tmps, params := ps, assign, body, defers := D0 } := ⟨_, rfl⟩
 obtain ⟨W1, hW1⟩ : ∃ W1, (w.alloc (.deferred (some []))).alloc (.loop (rec .ready)) = W1 := ⟨_, rfl⟩
 have hL1 : W1.heap[D0 + 1]? = some (.loop (rec .ready)) := by
  rw [← hW1, ← hD0]; have := World.alloc_heap_new (w.alloc (.deferred (some []))) (.loop (rec .ready)); rwa [World.size_alloc] at this
 have hK1 : W1.heap[D0]? = some (.deferred (some [])) := by
  rw [← hW1, ← hD0]; exact (Below.heap_alloc _ _ _ (by simp)).trans (World.alloc_heap_new w _)
 have hI1 : I [] W1 := by rw [← hW1]; exact hI.alloc _ (hI.alloc _ h0)
 have hs1 : W1.heap.size = D0 + 2 := by rw [← hW1]; simp [hD0]
 have hb1 : Below w0.heap.size w0 W1 := by
  rw [← hW1]; exact hb0.trans ((((Below.refl _ w).alloc (Nat.le_refl _) _).alloc (by simp) _).mono hb0.size)
 refine ⟨D0 + 1, [{ target := .collected D0, args := #[] }], W1, { target := .fn (.func gf) lb, args := #[.func (.yield (D0 + 1)) #[] #[]] }, W1, gf,
  #[.func (.yield (D0 + 1)) #[] #[]] ++ lb, W1, ?_, ?_, ?_, ?_, fun _ => h1, ?_⟩
 ·rw [← hW1, hrec, ← hD0]; exact run_enterLoop_outer _ _ _ _ _
 ·simp only [resolve, hg]
  simp [go_sem]
 ·intro f' hf'; simp [Target.leads] at hf'; subst hf'; exact hFg
 ·simp [invoke, go_sem, eg]
 ·have hkeep : ∀ {st : LoopState} {A B : World}, St A B → A.heap[D0 + 1]? = some (.loop (rec st)) → A.heap[D0]? = some (.deferred (some [])) → B.heap[D0 + 1]? = some (.loop (rec st)) ∧ B.heap[D0]? = some (.deferred (some [])) :=
   fun hs hl hk => ⟨hSt _ _ hs _ _ (by omega) hl rfl, hSt _ _ hs _ _ (by omega) hk rfl⟩
  refine (hseq (D0 + 1) (fun pre W => I pre W ∧ W.heap[D0 + 1]? = some (.loop (rec .ready)) ∧ W.heap[D0]? = some (.deferred (some []))) W1 hb1 ?_ ?_ ?_ ⟨hI1, hL1, hK1⟩).mono ?_
  ·intro s A B row hs hg' hr
   refine ⟨hI s A B row hs.1 hg' (fun r e => ?_), (grownBy_keeps hg' (fun r e => (hr r e).2) hs.2.1 rfl).trans hs.2.1, (grownBy_keeps hg' (fun r e => (hr r e).2) hs.2.2 rfl).trans hs.2.2⟩
   obtain ⟨hB, o, ho, hw⟩ := hr r e
   exact ⟨by omega, o, ho, Obj.not_cells_of_walk hw⟩
  ·intro pre A B hs h
   exact ⟨hIs pre A B hs h.1, hkeep hs h.2.1 h.2.2⟩
  ·rintro pre x W ⟨hi, hl, hk⟩ hlen
   have hlt : D0 + 1 < W.heap.size := (Array.getElem?_eq_some_iff.1 hl).1
   have hy := run_yield (P := P) (args := encs x) hl (by rw [hrec]; exact hps x)
   rw [hrec] at hy
   refine ⟨fn, _, assign, body, hy, roundIn_of_wpIn hfn (hassign _ x W _ ⟨_, run_beginRound hl (by rw [hrec]), ?_⟩)⟩
   obtain ⟨Wb, hWb⟩ : ∃ Wb, W.putObj (D0 + 1) (.loop (rec .busy)) = Wb := ⟨_, rfl⟩
   have hl2 : Wb.heap[D0 + 1]? = some (.loop (rec .busy)) := by rw [← hWb]; exact World.putObj_heap_same hlt
   have hk2 : Wb.heap[D0]? = some (.deferred (some [])) := by rw [← hWb]; exact (World.putObj_heap_other (by omega)).trans hk
   have hw2 : Kp W Wb := by rw [← hWb]; exact hKb _ _ _ _ (by omega) hl rfl rfl
   have hi2 : I pre Wb := by rw [← hWb]; exact hI.putObj _ hi (by omega) hl rfl
   have hgo : (W.putObj (D0 + 1) (.loop { rec .ready with state := .busy })) = Wb := by rw [← hWb, hrec]
   rw [hgo]
   refine wpIn_mono (hbody _ pre x Wb hi2 hlen) ?_
   rintro e a3 W3 hp
   cases e with
   | normal =>
    obtain ⟨hk3, hkp3, hi3⟩ := hp
    have hl3 := hk3.same _ _ (by omega) hl2 rfl
    have hr := run_endRound (P := P) none hl3
    have hl4 : (W3.putObj (D0 + 1) (.loop (rec .ready))).heap[D0 + 1]? = some (.loop (rec .ready)) := World.putObj_heap_same (Array.getElem?_eq_some_iff.1 hl3).1
    have hk4 : (W3.putObj (D0 + 1) (.loop (rec .ready))).heap[D0]? = some (.deferred (some [])) := (World.putObj_heap_other (by omega)).trans (hk3.same _ _ (by omega) hk2 rfl)
    have hi4 : I (pre ++ [x]) (W3.putObj (D0 + 1) (.loop (rec .ready))) := hI.putObj _ hi3 (by omega) hl3 rfl
    have hkp4 : Kp W (W3.putObj (D0 + 1) (.loop (rec .ready))) := hKt (hKt hw2 hkp3) (hKb _ _ _ _ (by omega) hl3 rfl rfl)
    rw [hrec] at hr hi4 hl4 hk4 hkp4 ⊢
    exact ⟨_, _, hr, rfl, ⟨hi4, hl4, hk4⟩, hkp4⟩
   | ret => exact hp.elim
   | exit id => exact hp.elim
   | goto t => exact hp.elim
   | panic ch => exact hp.elim
   | outgrown => exact hp.elim
  ·rintro e W2 ⟨⟨v, rfl⟩, xs, hS, hi, hl, hk⟩
   refine ⟨none, _, by have := run_endLoop (P := P) hl (by rw [hrec]; simp); rw [hrec] at this; exact this, ?_⟩
   exact hdone _ xs _ (by omega) hS (hI.putObj _ hi (by omega) hl rfl) ((World.putObj_heap_other (by omega)).trans hk)
end Go.Proofs.YtlfikhblmbidmaaGreatDoor
namespace Go.Proofs.YtlfikhblmbidmaaGreatDoor
open Go.RowKit
def SeqG {α : Type} (F : Fence) (n : Nat) (P : Program) (g : Nat) (lb : Array Value) (encs : α → Array Value) (Kp : World → World → Prop) (G : List α → α → World → Prop) (S : List α → Prop) (N : Nat) (w : World) : Prop :=
 ∀ (l : Nat) (J : List α → World → Prop) (W : World), Below w.heap.size w W → AbidesFrom W.heap.size J →
  (∀ pre x W1, J pre W1 → G pre x W1 → pre.length < N → YieldAt F (n - 1) P l (encs x) W1 fun e W' => e = .returned (.bool true) ∧ J (pre ++ [x]) W' ∧ Kp W1 W') →
  J [] W →
  CallsIn F n P g (#[.func (.yield l) #[] #[]] ++ lb) W fun e W' => (∃ v, e = .returned v) ∧ ∃ xs, S xs ∧ J xs W'
variable {F : Fence} {n : Nat} {P : Program}
theorem wpIn_rangeFunc_gd {α : Type} {g : Operand} {ps : Array Tmp} {assign body : Code} {Q : Exit → Act → World → Prop} {a : Act} {w : World}
  (hro : F.round = none) (h1 : 1 ≤ n) {gf : Nat} {lb : Array Value} (hg : a.eval g = .func (.func gf) #[] lb) (hFg : F.fn gf) (eg : ∀ args w, (callFunc gf args).run P w = .ok (.enter gf args) w)
  {encs : α → Array Value} {Kp : World → World → Prop} {G : List α → α → World → Prop} {S : List α → Prop} {N : Nat} {w0 : World} (hseq : SeqG F (n - 1) P gf lb encs Kp G S N w0)
  (hKt : ∀ {A B C : World}, Kp A B → Kp B C → Kp A C) (hKb : ∀ (W : World) (l : Nat) (o o' : Obj), w.heap.size ≤ l → W.heap[l]? = some o → o.isCells = false → o.isWalk = false → Kp W (W.putObj l o'))
  (hb0 : Below w0.heap.size w0 w) (hps : ∀ x, (encs x).size = ps.size)
  (I : List α → World → Prop) (hI : OwnFrom w.heap.size I) (hG : ∀ pre x, OwnFrom w.heap.size (fun (_ : Unit) W => G pre x W)) (h0 : I [] w) (Ax : α → Act → World → Prop) (hAx : ∀ x a', OwnFrom w.heap.size (fun (_ : Unit) W => Ax x a' W))
  (hassign : ∀ (l : Nat) (pre : List α) (x : α) (W : World) (K : Act → World → Prop), I pre W → G pre x W → (∀ a' W', KeepsFrom w.heap.size W W' → Kp W W' → I pre W' → G pre x W' → Ax x a' W' → K a' W') →
   assign.wpIn (F.inRound l) (n - 1 - 1) P (Exit.then K (fun _ _ _ => False)) { tmps := (ps.zip (encs x)).foldl (fun t (p, v) => t.setIfInBounds p v) a.tmps, defers := [] } W)
  (hbody : ∀ (l : Nat) (pre : List α) (x : α) (a' : Act) (W : World), I pre W → G pre x W → Ax x a' W → pre.length < N → body.wpIn (F.inRound l) (n - 1 - 1) P (stPost w.heap.size Kp I (pre ++ [x]) W) a' W)
  (hdone : ∀ (D : Nat) (xs : List α) (W : World), w.heap.size ≤ D → S xs → I xs W → W.heap[D]? = some (.deferred (some [])) → Q .normal { a with defers := { target := .collected D, args := #[] } :: a.defers } W) :
  (Code.rangeFunc g ps assign body).wpIn F n P Q a w := by
 refine wpIn_rangeFunc ?_
 intro fn hfn
 rw [hro]
 obtain ⟨D0, hD0⟩ : ∃ D0, w.heap.size = D0 := ⟨_, rfl⟩
 obtain ⟨rec, hrec⟩ : ∃ rec : LoopState → Loop, rec = fun st => { state := st, pending := none, fn, tmps := a.tmps, params := ps, assign, body, defers := D0 } := ⟨_, rfl⟩
 obtain ⟨W1, hW1⟩ : ∃ W1, (w.alloc (.deferred (some []))).alloc (.loop (rec .ready)) = W1 := ⟨_, rfl⟩
 have hL1 : W1.heap[D0 + 1]? = some (.loop (rec .ready)) := by
  rw [← hW1, ← hD0]; have := World.alloc_heap_new (w.alloc (.deferred (some []))) (.loop (rec .ready)); rwa [World.size_alloc] at this
 have hK1 : W1.heap[D0]? = some (.deferred (some [])) := by
  rw [← hW1, ← hD0]; exact (Below.heap_alloc _ _ _ (by simp)).trans (World.alloc_heap_new w _)
 have hI1 : I [] W1 := by rw [← hW1]; exact hI.alloc _ (hI.alloc _ h0)
 have hs1 : W1.heap.size = D0 + 2 := by rw [← hW1]; simp [hD0]
 have hb1 : Below w0.heap.size w0 W1 := by
  rw [← hW1]; exact hb0.trans ((((Below.refl _ w).alloc (Nat.le_refl _) _).alloc (by simp) _).mono hb0.size)
 refine ⟨D0 + 1, [{ target := .collected D0, args := #[] }], W1, { target := .fn (.func gf) lb, args := #[.func (.yield (D0 + 1)) #[] #[]] }, W1, gf,
  #[.func (.yield (D0 + 1)) #[] #[]] ++ lb, W1, ?_, ?_, ?_, ?_, fun _ => h1, ?_⟩
 ·rw [← hW1, hrec, ← hD0]; exact run_enterLoop_outer _ _ _ _ _
 ·simp only [resolve, hg]
  simp [go_sem]
 ·intro f' hf'; simp [Target.leads] at hf'; subst hf'; exact hFg
 ·simp [invoke, go_sem, eg]
 ·refine (hseq (D0 + 1) (fun pre W => I pre W ∧ W.heap[D0 + 1]? = some (.loop (rec .ready)) ∧ W.heap[D0]? = some (.deferred (some []))) W1 hb1 ?_ ?_ ⟨hI1, hL1, hK1⟩).mono ?_
  ·intro s A B row hs hg' hr
   refine ⟨hI s A B row hs.1 hg' (fun r e => ?_), (grownBy_keeps hg' (fun r e => (hr r e).2) hs.2.1 rfl).trans hs.2.1, (grownBy_keeps hg' (fun r e => (hr r e).2) hs.2.2 rfl).trans hs.2.2⟩
   obtain ⟨hB, o, ho, hw⟩ := hr r e
   exact ⟨by omega, o, ho, Obj.not_cells_of_walk hw⟩
  ·rintro pre x W0 ⟨hi0, hl0, hk0⟩ hGx0 hlen
   have hy := run_yield (P := P) (args := encs x) hl0 (by rw [hrec]; exact hps x)
   rw [hrec] at hy
   refine ⟨fn, _, assign, body, hy, roundIn_of_wpIn hfn (hassign _ pre x W0 _ hi0 hGx0 ?_)⟩
   clear hy
   intro a' W hkfa hkpa hi hGx hax
   have hl := hkfa.same _ _ (by omega) hl0 rfl
   have hk := hkfa.same _ _ (by omega) hk0 rfl
   have hlt : D0 + 1 < W.heap.size := (Array.getElem?_eq_some_iff.1 hl).1
   refine ⟨_, run_beginRound hl (by rw [hrec]), ?_⟩
   obtain ⟨Wb, hWb⟩ : ∃ Wb, W.putObj (D0 + 1) (.loop (rec .busy)) = Wb := ⟨_, rfl⟩
   have hl2 : Wb.heap[D0 + 1]? = some (.loop (rec .busy)) := by rw [← hWb]; exact World.putObj_heap_same hlt
   have hk2 : Wb.heap[D0]? = some (.deferred (some [])) := by rw [← hWb]; exact (World.putObj_heap_other (by omega)).trans hk
   have hw2 : Kp W Wb := by rw [← hWb]; exact hKb _ _ _ _ (by omega) hl rfl rfl
   have hi2 : I pre Wb := by rw [← hWb]; exact hI.putObj _ hi (by omega) hl rfl
   have hg2 : G pre x Wb := by rw [← hWb]; exact (hG pre x).putObj (s := ()) _ hGx (by omega) hl rfl
   have hgo : (W.putObj (D0 + 1) (.loop { rec .ready with state := .busy })) = Wb := by rw [← hWb, hrec]
   rw [hgo]
   have hx2 : Ax x a' Wb := by rw [← hWb]; exact (hAx x a').putObj (s := ()) _ hax (by omega) hl rfl
   refine wpIn_mono (hbody _ pre x a' Wb hi2 hg2 hx2 hlen) ?_
   rintro e a3 W3 hp
   cases e with
   | normal =>
    obtain ⟨hk3, hkp3, hi3⟩ := hp
    have hl3 := hk3.same _ _ (by omega) hl2 rfl
    have hr := run_endRound (P := P) none hl3
    have hl4 : (W3.putObj (D0 + 1) (.loop (rec .ready))).heap[D0 + 1]? = some (.loop (rec .ready)) := World.putObj_heap_same (Array.getElem?_eq_some_iff.1 hl3).1
    have hk4 : (W3.putObj (D0 + 1) (.loop (rec .ready))).heap[D0]? = some (.deferred (some [])) := (World.putObj_heap_other (by omega)).trans (hk3.same _ _ (by omega) hk2 rfl)
    have hi4 : I (pre ++ [x]) (W3.putObj (D0 + 1) (.loop (rec .ready))) := hI.putObj _ hi3 (by omega) hl3 rfl
    have hkp4 : Kp W0 (W3.putObj (D0 + 1) (.loop (rec .ready))) := hKt hkpa (hKt (hKt hw2 hkp3) (hKb _ _ _ _ (by omega) hl3 rfl rfl))
    rw [hrec] at hr hi4 hl4 hk4 hkp4 ⊢
    exact ⟨_, _, hr, rfl, ⟨hi4, hl4, hk4⟩, hkp4⟩
   | ret => exact hp.elim
   | exit id => exact hp.elim
   | goto t => exact hp.elim
   | panic ch => exact hp.elim
   | outgrown => exact hp.elim
  ·rintro e W2 ⟨⟨v, rfl⟩, xs, hS, hi, hl, hk⟩
   refine ⟨none, _, by have := run_endLoop (P := P) hl (by rw [hrec]; simp); rw [hrec] at this; exact this, ?_⟩
   exact hdone _ xs _ (by omega) hS (hI.putObj _ hi (by omega) hl rfl) ((World.putObj_heap_other (by omega)).trans hk)
def KeepT (T : TypeId) (A B : World) : Prop := ∀ (k : Nat) (cs : Array Value) (z : Nat × Nat), A.heap[k]? = some (.cells cs T z) → B.heap[k]? = A.heap[k]?
theorem KeepT.refl (T : TypeId) (A : World) : KeepT T A A := fun _ _ _ _ => rfl
theorem KeepT.trans {T : TypeId} {A B C : World} (h : KeepT T A B) (k : KeepT T B C) : KeepT T A C := fun i cs z hi => (k i cs z ((h i cs z hi).trans hi)).trans (h i cs z hi)
theorem KeepT.putObj {T : TypeId} {W : World} {l : Nat} {o : Obj} (o' : Obj) (hl : W.heap[l]? = some o) (ho : o.isCells = false) : KeepT T W (W.putObj l o') := fun k cs z hk => by
 refine World.putObj_heap_other (fun e => ?_)
 subst e
 rw [hk] at hl
 cases hl
 cases ho
theorem KeepT.below {T : TypeId} {A B : World} (h : Below A.heap.size A B) : KeepT T A B := fun k cs z hk => h.block k (Array.getElem?_eq_some_iff.1 hk).1
theorem KeepT.of_fr {T : TypeId} {S : Nat → Prop} {A B : World} (h : Fr S A B) (hS : ∀ i, S i → ∀ cs z, A.heap[i]? ≠ some (.cells cs T z)) : KeepT T A B := fun k cs z hk => h.block k (Array.getElem?_eq_some_iff.1 hk).1 (fun hs => hS k hs cs z hk)
theorem KeepT.row {T : TypeId} {A B : World} {lo size k : Nat} {v : Value} {xs : List Value} (h : KeepT T A B) (hr : A.ownsRow lo T size v k xs) : B.ownsRow lo T size v k xs := by
 refine ⟨hr.1, ?_⟩
 rcases hr.2 with hn | ⟨g, cap, cur, rfl, hb, hg, rest⟩
 ·exact .inl hn
 ·exact .inr ⟨g, cap, cur, rfl, hb, (h _ _ _ hg).trans hg, rest⟩
theorem below_grown {A B : World} (h : Below A.heap.size A B) : A.grownBy B none := ⟨h.os, h.tape, h.output, h.size, fun k hk _ => h.block k hk⟩
end Go.Proofs.YtlfikhblmbidmaaGreatDoor
namespace Go.Proofs.YtlfikhblmbidmaaGreatDoor
open Go.RowKit
variable {P : Program} {n l : Nat} {ops : Array Oper} {Q : Exit → Act → World → Prop}
theorem wpOpIn_of_wpOp {i : Nat} {K : Act → World → Prop} {a : Act} {w : World} (hnd : ∀ (o : Oper), ops[i]? = some o → ∀ c, o.op ≠ .defer c) (hlo : ¬ LetsOut Q)
  (h : wpOp P ops Q i K a w) : wpOpIn (Fence.wide.inRound l) n P ops Q i K a w := by
 unfold wpOp at h
 unfold wpOpIn
 cases ho : ops[i]? with
 | none => simpa [ho] using h
 | some o =>
  simp only [ho] at h ⊢
  split at h
  ·rename_i hw
   rw [if_pos hw]
   rcases h with h | ⟨_, h⟩
   ·refine ⟨fun _ _ => trivial, ?_⟩
    rw [Oper.semAt_plain _ _ _ (hnd o ho)]
    unfold Oper.wp at h
    generalize (execOp a.eval o).run P w = r at *
    cases r with
    | ok x w' =>
     cases x <;> simp only [Oper.upon, Oper.uponIn] at h ⊢
     case value => exact h
     case skip => exact h
     case defer => exact h
     case enter => exact ⟨fun h => (by cases h), CallsIn.inRound l (callsIn_wide.2 h)⟩
     case row row args =>
      have hr : RowsIn Fence.wide (n - 1) P row args w' (fun v w'' => K (a.put o.dst v) w'') := fun c cs _ => let ⟨v, w'', r, s⟩ := h c cs; ⟨v, w'', r, stepsIn_wide.2 s⟩
      exact ⟨fun h => (by cases h), hr⟩
    | halt x w' => cases x <;> simp only [Oper.upon, Oper.uponIn] at h ⊢; exact h
   ·exact absurd h hlo
  ·rename_i hw
   rw [if_neg hw]
   exact ⟨fun _ _ => trivial, h⟩
theorem wpAnyIn_of_wpAny {md : Region.Mode} (hnd : ∀ (i : Nat) (o : Oper), ops[i]? = some o → ∀ c, o.op ≠ .defer c) (hlo : ¬ LetsOut Q) :
  ∀ (fuel : Nat) (listed : Array Bool) (a : Act) (w : World), wpAny P md ops Q fuel listed a w → wpAnyIn (Fence.wide.inRound l) n P md ops Q fuel listed a w
 | 0, _, _, _, h => h
 | fuel + 1, listed, a, w, h => ⟨h.1, fun i hi => wpOpIn_mono (fun a' w' h' => wpAnyIn_of_wpAny hnd hlo fuel _ a' w' h') (wpOpIn_of_wpOp (hnd i) hlo (h.2 i hi))⟩
def noDefer (ops : Array Oper) : Bool := ops.all fun o => match o.op with
 | .defer _ => false
 | _ => true
theorem noDefer_spec (h : noDefer ops = true) (i : Nat) (o : Oper) (ho : ops[i]? = some o) (c : Call) : o.op ≠ .defer c := fun e => by
 have := Array.all_eq_true.1 h i (Array.getElem?_eq_some_iff.1 ho).1
 rw [(Array.getElem?_eq_some_iff.1 ho).2, e] at this
 cases this
theorem wpIn_region_round {S : World → Prop} {id : Nat} {a : Act} {w : World} (hm : P.follows .mixedOrders = true) (hnd : noDefer ops = true) (hlo : ¬ LetsOut Q)
  (h : wpAnyH P .any ops Q S ops.size (Array.replicate ops.size false) a w.drew) : (Code.region id ops true).wpIn (Fence.wide.inRound l) n P Q a w :=
 wpIn_region_any hm (wpAnyIn_of_wpAny (noDefer_spec hnd) hlo _ _ _ _ (wpAny_of_held _ _ _ _ h))
theorem wpIn_round_drew {S : World → Prop} {id : Nat} {a : Act} {w : World} (hm : P.follows .mixedOrders = true) (hnd : noDefer ops = true) (hlo : ¬ LetsOut Q) (hS : S w.drew)
  (h : S w.drew → wpAnyH P .any ops Q S ops.size (Array.replicate ops.size false) a w.drew) : (Code.region id ops true).wpIn (Fence.wide.inRound l) n P Q a w :=
 wpIn_region_round hm hnd hlo (h hS)
end Go.Proofs.YtlfikhblmbidmaaGreatDoor
namespace Go.Proofs.YtlfikhblmbidmaaGreatDoor
open Go.RowKit
def fours16I : List Int := fours16.map Int.ofNat
abbrev FoursAt (w : World) : Prop := Lib.TabIs Tryz.prog w "skald/crc.fours" .u32 fours16I
theorem FoursAt.below {w w' : World} (h : FoursAt w) (hb : Below w.heap.size w w') : FoursAt w' := (Lib.tabBelow_of_tabIs h) w' hb
theorem FoursAt.cell {w : World} (h : FoursAt w) (i : Nat) (hi : i < 16) : w.cell? ⟨1, i, none⟩ = some (.int .u32 (fours16.getD i 0 : Nat)) := by
 have := Lib.TabIs.cell (g := 1) h (by kernel_rfl) i (show i < fours16I.length from hi)
 rw [this]
 have e : ∀ j, j < 16 → fours16I.getD j 0 = (fours16.getD j 0 : Nat) := by decide
 rw [e i hi]
theorem xor32 {a b : Nat} (ha : a < 2 ^ 32) (hb : b < 2 ^ 32) : bits .xor .u32 (a : Int) (b : Int) = ((a ^^^ b : Nat) : Int) := u32_xor_nat a b ha hb
theorem and15 {r : Nat} (h : r < 2 ^ 32) : bits .and .u32 (r : Int) 15 = ((r % 16 : Nat) : Int) := by
 have := u32_and_nat r 15 h (by decide)
 rw [nat_mask4] at this
 exact this
set_option maxRecDepth 100000 in
set_option maxHeartbeats 1000000 in
theorem eight_any (r : Nat) (w : World) (hr : r < 2 ^ 32) (h : FoursAt w) :
  Calls Tryz.prog 231 #[.int .u32 (r : Int)] w fun e w' => e = .returned (.int .u32 (crcEight r : Nat)) ∧ Below w.heap.size w w' := by
 have h1 := and15 hr
 have c1 := h.cell (r % 16) (Nat.mod_lt _ (by decide))
 have x1 : bits .xor .u32 ((r : Int) / 16) ((fours16.getD (r % 16) 0 : Nat) : Int) = ((crcFour r : Nat) : Int) := by
  have := xor32 (a := r / 16) (b := fours16.getD (r % 16) 0) (by omega) (fours16_lt _)
  rw [← crcFour] at this
  exact_mod_cast this
 have hr2 := crcFour_lt hr
 have c2 := h.cell (crcFour r % 16) (Nat.mod_lt _ (by decide))
 have x2 : bits .xor .u32 ((crcFour r : Int) / 16) ((fours16.getD (crcFour r % 16) 0 : Nat) : Int) = ((crcEight r : Nat) : Int) := by
  have := xor32 (a := crcFour r / 16) (b := fours16.getD (crcFour r % 16) 0) (by omega) (fours16_lt _)
  rw [← crcFour] at this
  exact_mod_cast this
 have h2 := and15 hr2
 have b1 : r % 16 < 16 := Nat.mod_lt _ (by decide)
 have b2 : crcFour r % 16 < 16 := Nat.mod_lt _ (by decide)
 generalize fours16.getD (r % 16) 0 = t1 at *
 generalize fours16.getD (crcFour r % 16) 0 = t2 at *
 generalize crcEight r = z at *
 generalize crcFour r = q at *
 go_enter Tryz.func231, Tryz.ntmps231
 go_wp2_with fail
 go_returns
 exact ⟨rfl, Below.refl _ _⟩
abbrev u8V (b : UInt8) : Value := .int .u8 (b.toNat : Int)
def BsIn (w : World) (v : Value) (bs : List UInt8) : Prop :=
 ∃ A cap, v = .slice A bs.length cap ∧ bs.length ≤ cap ∧ cap ≤ maxLen ∧
  (0 < bs.length → ∃ b off, A = some ⟨b, off, none⟩ ∧ b < w.heap.size ∧ ∀ i z, bs[i]? = some z → w.cell? ⟨b, off + i, none⟩ = some (u8V z))
theorem BsIn.below {w w' : World} {v : Value} {bs : List UInt8} (h : BsIn w v bs) (hb : Below w.heap.size w w') : BsIn w' v bs := by
 obtain ⟨A, cap, h1, h2, h3, h5⟩ := h
 refine ⟨A, cap, h1, h2, h3, fun h0 => ?_⟩
 obtain ⟨b, off, k1, k2, k3⟩ := h5 h0
 exact ⟨b, off, k1, Nat.lt_of_lt_of_le k2 hb.size, fun i z hx => (hb.cell (p := ⟨b, off + i, none⟩) k2).trans (k3 i z hx)⟩
set_option maxRecDepth 100000 in
set_option maxHeartbeats 1000000 in
theorem more_any (v : Value) (bs : List UInt8) (w : World) (hv : BsIn w v bs) (hF0 : FoursAt w) :
  Calls Tryz.prog 216 #[.int .u32 0, v] w fun e w' => e = .returned (.int .u32 (crcSum bs : Nat)) ∧ Below w.heap.size w w' := by
 obtain ⟨A, cap, rfl, hle, hmax, hcell⟩ := hv
 have n1 : bits .xor .u32 4294967295 0 = 4294967295 := by decide
 have n2 : bits .xor .u32 IntKind.u32.max (crcReg 4294967295 bs : Int) = (crcSum bs : Int) := xor32 (a := 4294967295) (b := crcReg 4294967295 bs) (by decide) (crcReg_lt bs _ (by decide))
 go_enter Tryz.func216, Tryz.ntmps216
 go_wp2_with fail
 go_loopw [5, 12] (fun r c wr => ∃ i : Nat, i ≤ bs.length ∧ c = .int .i64 i ∧ r = .int .u32 (crcReg 4294967295 (bs.take i) : Nat) ∧ Below w.heap.size w wr) (fun _ c _ => bs.length - (intOf c).toNat)
 case atStart => exact ⟨0, Nat.zero_le _, rfl, rfl, Below.refl _ _⟩
 case round =>
  obtain ⟨i, hi, rfl, rfl, bel⟩ := hrel
  by_cases hlt : i < bs.length
  ·obtain ⟨z, hz⟩ : ∃ z, bs[i]? = some z := ⟨_, List.getElem?_eq_getElem hlt⟩
   obtain ⟨b, off, rfl, hb, hc⟩ := hcell (by omega)
   have hi1 := Lib.hid (show i + 1 ≤ bs.length by omega)
   have hms := Lib.hid (show bs.length - (intOf (Value.int .i64 ((i + 1 : Nat) : Int))).toNat < bs.length - (intOf (Value.int .i64 (i : Int))).toNat by simp [intOf]; omega)
   have hw := Lib.hid (show wrap64 ((i : Int) + 1) = ((i + 1 : Nat) : Int) by unfold maxLen at hmax; unfold wrap64; omega)
   have hcz := (bel.cell (p := ⟨b, off + i, none⟩) hb).trans (hc i z hz)
   have hr := crcReg_lt (bs.take i) 4294967295 (by decide)
   have hzt := z.toNat_lt
   have x1 : bits .xor .u32 (crcReg 4294967295 (bs.take i) : Int) (z.toNat : Int) = ((crcReg 4294967295 (bs.take i) ^^^ z.toNat : Nat) : Int) := xor32 hr (by omega)
   have e1 : crcReg 4294967295 (bs.take (i + 1)) = crcEight (crcReg 4294967295 (bs.take i) ^^^ z.toNat) := by
    rw [List.take_add_one, hz]
    exact crcReg_snoc _ _ _
   have hx := Nat.xor_lt_two_pow (n := 32) hr (show z.toNat < 2 ^ 32 by omega)
   have hF := Lib.hid (FoursAt.below hF0 bel)
   generalize crcReg 4294967295 (bs.take i) ^^^ z.toNat = y at *
   go_wp2_with (go_at_call 231; refine (eight_any y _ hx hF.out).mono ?_; rintro e w2 ⟨rfl, b2⟩)
   rw [hw.out]
   exact ⟨⟨i + 1, hi1.out, rfl, by rw [e1], bel.trans (b2.mono bel.size)⟩, hms.out⟩
  ·obtain rfl : i = bs.length := by omega
   rw [List.take_length]
   go_wp2_with fail
   go_returns
   exact ⟨rfl, bel⟩
theorem sum_any (v : Value) (bs : List UInt8) (w : World) (hv : BsIn w v bs) (hF0 : FoursAt w) :
  Calls Tryz.prog 188 #[v] w fun e w' => e = .returned (.int .u32 (crcSum bs : Nat)) ∧ Below w.heap.size w w' := by
 have HM := more_any v bs w hv hF0
 go_enter Tryz.func188, Tryz.ntmps188
 go_wp2_with (go_at_call 216; refine HM.mono ?_; rintro e w2 ⟨rfl, b2⟩)
 go_returns
 exact ⟨rfl, b2⟩
theorem crcCheck_any (v : Value) (bs : List UInt8) (x : Nat) (w : World) (hv : BsIn w v bs) (hF0 : FoursAt w) :
  Calls Tryz.prog 248 #[v, .int .u32 (x : Int)] w fun e w' => e = .returned (.bool (decide (crcSum bs = x))) ∧ Below w.heap.size w w' := by
 have HM := sum_any v bs w hv hF0
 have hd : (((crcSum bs : Nat) : Int) == (x : Int)) = decide (crcSum bs = x) := by
  by_cases h : crcSum bs = x
  ·rw [h]; simp
  ·rw [decide_eq_false h]
   simp; omega
 go_enter Tryz.func248, Tryz.ntmps248
 go_wp2_with (go_at_call 188; refine HM.mono ?_; rintro e w2 ⟨rfl, b2⟩)
 go_returns
 exact ⟨by simp, b2⟩
end Go.Proofs.YtlfikhblmbidmaaGreatDoor