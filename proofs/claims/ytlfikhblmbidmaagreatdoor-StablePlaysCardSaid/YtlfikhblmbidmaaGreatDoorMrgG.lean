/- Laid together by gen/merge.py: SltA SltB RndW SltC SltD SltE. -/
import Derived.Test.YtlfikhblmbidmaaGreatDoorMrgA
import Derived.Test.YtlfikhblmbidmaaGreatDoorMrgF
import Derived.Test.YtlfikhblmbidmaaGreatDoorMrgD
import Derived.Maps.OwnIn
import Derived.OwnWalkIn
import Derived.TacticsInMore
import Derived.LoopNIn
import Derived.LoopIn
import Derived.Shelf.RegionOpen
import Derived.OrdersHeld
import Derived.StillTailTactics
import Derived.Test.YtlfikhblmbidmaaGreatDoorShelf
set_option linter.all false
namespace Go.Proofs.YtlfikhblmbidmaaGreatDoor
open Go.RowKit Go.Maps
abbrev strV (k : Int) (v : ByteArray) : Value := .string v
structure LogAt (w : World) (p m : Nat) (s : LogSt) : Prop where
 blk : Blk w p 169 #[.map (some m), .int .i64 s.base, .int .i64 s.upto, .int .i64 s.top]
 map : MapIs Tryz.prog 3 w m (encF strV s.L)
def lF (p m i : Nat) : Prop := i = p ∨ i = m
namespace LogAt
variable {w w' : World} {p m : Nat} {s : LogSt}
theorem ne (h : LogAt w p m s) : p ≠ m := by
 obtain ⟨es, c, hm⟩ := h.map.block
 exact h.blk.ne_map hm
theorem fr {S : Nat → Prop} (h : LogAt w p m s) (k : Fr S w w') (hS : ∀ i, lF p m i → ¬ S i) : LogAt w' p m s := ⟨h.blk.fr k (hS p (.inl rfl)), h.map.of_block (k.block m h.map.lt (hS m (.inr rfl)))⟩
theorem below (h : LogAt w p m s) (k : Below w.heap.size w w') : LogAt w' p m s := h.fr (Fr.of_below k : Fr S0 w w') (fun _ _ e => e)
theorem lt (h : LogAt w p m s) : p < w.heap.size ∧ m < w.heap.size := ⟨h.blk.lt, h.map.lt⟩
end LogAt
structure LStep (w : World) (p m : Nat) (w' : World) (s : LogSt) : Prop where
 fr : Fr (lF p m) w w'
 at_ : LogAt w' p m s
theorem LStep.refl {w : World} {p m : Nat} {s : LogSt} (h : LogAt w p m s) : LStep w p m w s := ⟨Fr.refl _ _, h⟩
theorem LStep.trans {w w' w'' : World} {p m : Nat} {s s' : LogSt} (h : LStep w p m w' s) (k : LStep w' p m w'' s') : LStep w p m w'' s' := ⟨h.fr.trans k.fr, k.at_⟩
theorem LStep.below {w w' : World} {p m : Nat} {s : LogSt} (h : LogAt w p m s) (k : Below w.heap.size w w') : LStep w p m w' s := ⟨Fr.of_below k, h.below k⟩
theorem lnew_any (w : World) : Calls Tryz.prog 70 #[] w fun e w' => ∃ p m, e = .returned (.pointer (some ⟨p, 0, none⟩)) ∧ LogAt w' p m newLog ∧ w.heap.size ≤ p ∧ w.heap.size ≤ m ∧ Below w.heap.size w w' := by
 have hmm := @run_makeMap Tryz.prog
 go_enter Tryz.func70, Tryz.ntmps70
 go_wp2_with fail
 go_returns
 refine ⟨w.heap.size + 1, w.heap.size, rfl, ⟨blk_new1 _ _ _ _, (MapIs.made w Tryz.prog 3).of_block (Below.heap_alloc _ _ _ (by simp))⟩, by omega, Nat.le_refl _, ((Below.refl _ w).alloc (Nat.le_refl _) _).alloc (by simp) _⟩
theorem lmade_yes (p m : Nat) (w : World) (h : w.cell? ⟨p, 0, none⟩ = some (.map (some m))) :
  Calls Tryz.prog 125 #[.pointer (some ⟨p, 0, none⟩)] w fun e w' => e = .returned (.bool true) ∧ w = w' := by
 have qT : ∀ (w : World) (r : Option Nat), (binOp .neq 167 (.map r) (.map none)).run Tryz.prog w = .ok (.bool (!r.isNone)) w := fun w r => run_neq_map_nil w _ _ _ r Tryz.underlying167
 go_enter Tryz.func125, Tryz.ntmps125
 go_wp2
 go_ret
 exact ⟨rfl, rfl⟩
section
variable {w : World} {p m : Nat} {s : LogSt}
theorem LogAt.c0 (h : LogAt w p m s) : w.cell? ⟨p, 0, none⟩ = some (.map (some m)) := h.blk.cell rfl
theorem LogAt.c1 (h : LogAt w p m s) : w.cell? ⟨p, 1, none⟩ = some (.int .i64 s.base) := h.blk.cell rfl
theorem LogAt.c2 (h : LogAt w p m s) : w.cell? ⟨p, 2, none⟩ = some (.int .i64 s.upto) := h.blk.cell rfl
theorem LogAt.c3 (h : LogAt w p m s) : w.cell? ⟨p, 3, none⟩ = some (.int .i64 s.top) := h.blk.cell rfl
theorem lbase_any (h : LogAt w p m s) : Calls Tryz.prog 81 #[.pointer (some ⟨p, 0, none⟩)] w fun e w' => e = .returned (.int .i64 s.base) ∧ w = w' := by
 have c0 := h.c0
 have c1 := h.c1
 clear h
 go_enter Tryz.func81, Tryz.ntmps81
 go_wp2_with (go_at_call 125; refine (lmade_yes p m w c0).mono ?_; rintro e w' ⟨rfl, rfl⟩)
 go_returns
 exact ⟨rfl, rfl⟩
theorem lupto_any (h : LogAt w p m s) : Calls Tryz.prog 63 #[.pointer (some ⟨p, 0, none⟩)] w fun e w' => e = .returned (.int .i64 s.upto) ∧ w = w' := by
 have c0 := h.c0
 have c2 := h.c2
 clear h
 go_enter Tryz.func63, Tryz.ntmps63
 go_wp2_with (go_at_call 125; refine (lmade_yes p m w c0).mono ?_; rintro e w' ⟨rfl, rfl⟩)
 go_returns
 exact ⟨rfl, rfl⟩
theorem zeroStr (w : World) : (zeroValue 9).run Tryz.prog w = .ok (.string ⟨#[]⟩) w := by kernel_rfl
def getV (k : Int) (L : VL) : Value := .tuple #[.string ((get k L).getD ⟨#[]⟩), .bool (get k L).isSome]
theorem lget_any (k : Int) (h : LogAt w p m s) (hk : in64 k) : Calls Tryz.prog 82 #[.pointer (some ⟨p, 0, none⟩), .int .i64 k] w fun e w' => e = .returned (getV k s.L) ∧ w = w' := by
 have c0 := h.c0
 have HM := Lib.hid h.map
 have HG : ∀ g : Nat, ((get k (encF strV s.L)).getD (.string ⟨#[]⟩)) = .string ((get k s.L).getD ⟨#[]⟩) ∧ (get k (encF strV s.L)).isSome = (get k s.L).isSome := fun _ => by
  rw [get_encF]
  cases get k s.L <;> exact ⟨rfl, rfl⟩
 have HG1 := Lib.hid (HG 0).1
 have HG2 := Lib.hid (HG 0).2
 clear h HG
 go_enter Tryz.func82, Tryz.ntmps82
 go_wp2_with (first
  | (go_at_call 125; refine (lmade_yes p m w c0).mono ?_; rintro e w' ⟨rfl, rfl⟩)
  | (at_lookup; refine wpList_look _ rfl _ _ 167 rfl 3 9 Tryz.underlying3 Tryz.underlying167 (.string ⟨#[]⟩) (zeroStr w) m _ rfl HM.out k rfl (wf64 hk) ?_; rw [HG1.out, HG2.out]))
 go_returns
 exact ⟨rfl, rfl⟩
theorem lcheck_any (u : Int) (h : LogAt w p m s) : Calls Tryz.prog 130 #[.pointer (some ⟨p, 0, none⟩), .int .i64 u] w fun e w' => e = .returned (.int .i64 (if u < 0 ∨ 4096 < u then 2 else 0)) ∧ w = w' := by
 have c0 := h.c0
 clear h
 by_cases h1 : u < 0
 ·rw [if_pos (Or.inl h1)]
  go_enter Tryz.func130, Tryz.ntmps130
  go_wp2_with (go_at_call 125; refine (lmade_yes p m w c0).mono ?_; rintro e w' ⟨rfl, rfl⟩)
  go_returns
  exact ⟨rfl, rfl⟩
 ·by_cases h2 : 4096 < u
  ·rw [if_pos (Or.inr h2)]
   go_enter Tryz.func130, Tryz.ntmps130
   go_wp2_with (go_at_call 125; refine (lmade_yes p m w c0).mono ?_; rintro e w' ⟨rfl, rfl⟩)
   go_returns
   exact ⟨rfl, rfl⟩
  ·rw [if_neg (by omega)]
   go_enter Tryz.func130, Tryz.ntmps130
   go_wp2_with (go_at_call 125; refine (lmade_yes p m w c0).mono ?_; rintro e w' ⟨rfl, rfl⟩)
   go_returns
   exact ⟨rfl, rfl⟩
end
end Go.Proofs.YtlfikhblmbidmaaGreatDoor
namespace Go.Proofs.YtlfikhblmbidmaaGreatDoor
open Go.RowKit Go.Maps
attribute [local go_sem] Oper.semAt_some
section
variable {F : Fence} {fn : Nat} {P : Program} (w : World) {ops : Array Oper} {rest : List Oper} {o : Oper} {a : Act} {Q : Exit → Act → World → Prop}
theorem wpListIn_look (hg : o.guard = none) (m x : Operand) (t : TypeId) (hop : o.op = Op.lookup t m x true)
  (k e : TypeId) (hk : P.underlying k = some (.int .i64)) (ht : P.underlying t = some (.map k e)) (z : Value) (hz : (zeroValue e).run P w = .ok z w) (b : Nat) (L : List (Int × Value))
  (hm : a.eval m = .map (some b)) (hown : MapIs P k w b L) (i : Int) (hx : a.eval x = .int .i64 i) (hi : (Lit.int .i64 i).wf = true)
  (hK : wpListIn F fn P ops Q rest (a.put o.dst (.tuple #[(get i L).getD z, .bool (get i L).isSome])) w) :
  wpListIn F fn P ops Q (o :: rest) a w :=
 wpListIn_lookup_own_ok w hg m x t hop k e (int_keyed hk) ht RV hz (.held z) [] rfl b _ (dat L) hm hown (.int .i64 i) (.int .i64 i) hx (keyOf_int_mk hk hi) (fun v ps hv => by
  have := held_eq hv (dat_atKey i z L)
  subst this
  rw [dat_has]
  exact hK)
end
abbrev SltX := Int × Bool
def fromL (L : VL) (u : Int) (n : Nat) : List SltX := (List.range n).map fun (j : Nat) => (u + (j : Int), (get (u + (j : Int)) L).isSome)
theorem fromL_length (L : VL) (u : Int) (n : Nat) : (fromL L u n).length = n := by simp [fromL]
theorem fromL_succ (L : VL) (u : Int) (n : Nat) : fromL L u (n + 1) = fromL L u n ++ [(u + (n : Int), (get (u + (n : Int)) L).isSome)] := by simp [fromL, List.range_succ]
abbrev sltV (x : SltX) : Array Value := #[.int .i64 x.1, .bool x.2]
structure KpS (p m b1 b2 : Nat) (A B : World) : Prop where
 c0 : B.cell? ⟨p, 0, none⟩ = A.cell? ⟨p, 0, none⟩
 c3 : B.cell? ⟨p, 3, none⟩ = A.cell? ⟨p, 3, none⟩
 map : B.heap[m]? = A.heap[m]?
 h1 : B.heap[b1]? = A.heap[b1]?
 h2 : B.heap[b2]? = A.heap[b2]?
theorem KpS.refl (p m b1 b2 : Nat) (A : World) : KpS p m b1 b2 A A := ⟨rfl, rfl, rfl, rfl, rfl⟩
theorem KpS.trans {p m b1 b2 : Nat} {A B C : World} (h : KpS p m b1 b2 A B) (k : KpS p m b1 b2 B C) : KpS p m b1 b2 A C := ⟨k.c0.trans h.c0, k.c3.trans h.c3, k.map.trans h.map, k.h1.trans h.h1, k.h2.trans h.h2⟩
theorem KpS.of_fr {S : Nat → Prop} {p m b1 b2 : Nat} {A B : World} (h : Fr S A B) (hp : ¬ S p) (hm : ¬ S m) (hb1 : ¬ S b1) (hb2 : ¬ S b2) (lp : p < A.heap.size) (lm : m < A.heap.size) (l1 : b1 < A.heap.size) (l2 : b2 < A.heap.size) : KpS p m b1 b2 A B :=
 ⟨World.cell?_of_block (h.block p lp hp), World.cell?_of_block (h.block p lp hp), h.block m lm hm, h.block b1 l1 hb1, h.block b2 l2 hb2⟩
set_option maxRecDepth 100000 in
set_option maxHeartbeats 2000000 in
theorem from_stops (n : Nat) (hn : 1 ≤ n) (p m b1 b2 : Nat) (s : LogSt) (u : Int) (w : World) (hu : 0 ≤ u ∧ u ≤ s.top) (ht : s.top ≤ 4096) (h0' : w.cell? ⟨p, 0, none⟩ = some (.map (some m))) (h3 : w.cell? ⟨p, 3, none⟩ = some (.int .i64 s.top)) (hm : MapIs Tryz.prog 3 w m (encF strV s.L))
  (hb1 : Boxed w b1 3 (.int .i64 u)) (hb2 : Boxed w b2 36 (.pointer (some ⟨p, 0, none⟩))) :
  SeqStopsK Fence.wide n Tryz.prog 214 #[.pointer (some ⟨b1, 0, none⟩), .pointer (some ⟨b2, 0, none⟩)] sltV (KpS p m b1 b2) (fun xs => xs = fromL s.L u (s.top - u).toNat) (fun pre => ∃ k, pre = fromL s.L u k ∧ k ≤ (s.top - u).toNat) (s.top - u).toNat w := by
 intro l J Jx W hW hJ hJx hY hj0
 have hro : Fence.wide.round = none := rfl
 have lp : p < w.heap.size := by obtain ⟨o, ho, _⟩ := cells_of_cell h0'; exact (Array.getElem?_eq_some_iff.1 ho).1
 have k0 := bcell hW h0'
 have k3 := bcell hW h3
 have km := hm.of_block (hW.block m hm.lt)
 have kb1 : Boxed W b1 3 (.int .i64 u) := (hW.block b1 hb1.lt).trans hb1
 have kb2 : Boxed W b2 36 (.pointer (some ⟨p, 0, none⟩)) := (hW.block b2 hb2.lt).trans hb2
 have q1 := kb1.cell
 refine callsIn_of_wp Tryz.func214 rfl trivial ?_ hro
 simp only [Tryz.ntmps214, List.size_toArray, List.length_cons, List.length_nil, Nat.reduceAdd, Nat.reduceSub, Array.replicate_succ, Array.replicate_zero, List.push_toArray, List.append_toArray, List.nil_append, List.cons_append]
 have KM := Lib.hid km
 have KB1 := Lib.hid kb1
 have KB2 := Lib.hid kb2
 have K0 := Lib.hid k0
 have K3 := Lib.hid k3
 clear km kb1 kb2 h0' h3 hm hb1 hb2 k0 k3
 gi_wp2
 gi_loopw [4] (fun c wr => ∃ k : Nat, k ≤ (s.top - u).toNat ∧ c = .int .i64 (u + (k : Int)) ∧ J (fromL s.L u k) wr ∧ KpS p m b1 b2 W wr) (fun c _ => (s.top - intOf c).toNat)
 case atStart => exact ⟨0, Nat.zero_le _, by simp, hj0, KpS.refl _ _ _ _ _⟩
 case round =>
  obtain ⟨k, hk, rfl, hj, hkp⟩ := hrel
  have x0 := hkp.c0.trans K0.out
  have x3 := hkp.c3.trans K3.out
  have y2 := (hkp.h2.trans KB2.out : Boxed wr b2 36 (.pointer (some ⟨p, 0, none⟩)))
  have z2 : wr.cell? ⟨b2, 0, none⟩ = some (.pointer (some ⟨p, 0, none⟩)) := Boxed.cell y2
  have HMW := Lib.hid (KM.out.of_block hkp.map)
  have HKP := Lib.hid hkp
  clear y2 hkp q1
  by_cases hlt : u + (k : Int) < s.top
  ·have HKV : Hid (((get (u + (k : Int)) (encF strV s.L)).getD (.string ⟨#[]⟩)) = .string ((get (u + (k : Int)) s.L).getD ⟨#[]⟩) ∧ (get (u + (k : Int)) (encF strV s.L)).isSome = (get (u + (k : Int)) s.L).isSome) := by
    rw [get_encF]
    cases get (u + (k : Int)) s.L <;> exact ⟨rfl, rfl⟩
   have HS := Lib.hid (fromL_succ s.L u k)
   have hy' := hY (fromL s.L u k) (u + (k : Int), (get (u + (k : Int)) s.L).isSome) wr hj (by rw [fromL_length]; omega)
   rw [← HS.out] at hy'
   obtain ⟨is, his⟩ : ∃ is, (get (u + (k : Int)) s.L).isSome = is := ⟨_, rfl⟩
   rw [his] at hy' HKV
   obtain ⟨fn, tmps, assign, body, hy, hR⟩ := hy'
   try dsimp only at hy
   have hin : in64 (u + (k : Int)) := ⟨by omega, by omega⟩
   clear his
   gi_wp2_with (gi_at_lookup; refine wpListIn_look _ rfl _ _ 167 rfl 3 9 Tryz.underlying3 Tryz.underlying167 (.string ⟨#[]⟩) (zeroStr wr) m _ rfl HMW.out (u + (k : Int)) rfl (wf64 hin) ?_; rw [HKV.out.1, HKV.out.2])
   refine hR.mono ?_
   rintro e W3 (⟨rfl, hj3, hk3⟩ | ⟨rfl, hjx3⟩)
   ·have HJ := Lib.hid hj3
    have HK3 := Lib.hid (HKP.out.trans hk3)
    clear hj3 hk3
    gi_wp2
    refine ⟨⟨k + 1, by omega, ?_, HJ.out, HK3.out⟩, by simp [intOf]; omega⟩
    rw [Int.add_assoc]; push_cast; rfl
   ·have HJ := Lib.hid hjx3
    clear hjx3
    gi_wp2
    refine bodyPost_ret (results_none rfl _ _ _) rfl ?_
    exact ⟨⟨_, rfl⟩, .inr ⟨_, ⟨k + 1, rfl, by omega⟩, HJ.out⟩⟩
  ·have hkk : k = (s.top - u).toNat := by omega
   gi_wp2
   go_end0
   rw [hkk] at hj
   first | exact ⟨⟨_, rfl⟩, .inl hj⟩ | exact ⟨⟨_, rfl⟩, .inl ⟨_, rfl, hj⟩⟩
theorem from_any (p : Nat) (u : Int) (w : World) :
  Calls Tryz.prog 182 #[.pointer (some ⟨p, 0, none⟩), .int .i64 u] w fun e w' => e = .returned (.func (.func 214) #[] #[.pointer (some ⟨w.heap.size + 1, 0, none⟩), .pointer (some ⟨w.heap.size, 0, none⟩)]) ∧
   w' = (w.alloc (.cells #[.pointer (some ⟨p, 0, none⟩)] 36)).alloc (.cells #[.int .i64 u] 3) := by
 go_enter Tryz.func182, Tryz.ntmps182
 go_wp2
 go_ret
 exact ⟨rfl, rfl⟩
end Go.Proofs.YtlfikhblmbidmaaGreatDoor
namespace Go.Proofs.YtlfikhblmbidmaaGreatDoor
open Go.RowKit
variable {P : Program} {n : Nat} {ops : Array Oper} {Q : Exit → Act → World → Prop}
theorem wpOpIn_of_wpOpW {i : Nat} {K : Act → World → Prop} {a : Act} {w : World} (hnd : ∀ (o : Oper), ops[i]? = some o → ∀ c, o.op ≠ .defer c) (hlo : ¬ LetsOut Q)
  (h : wpOp P ops Q i K a w) : wpOpIn Fence.wide n P ops Q i K a w := by
 unfold wpOp at h
 unfold wpOpIn
 cases ho : ops[i]? with
 | none => simpa [ho] using h
 | some o =>
  simp only [ho] at h ⊢
  split at h
  ·rename_i hw
   rw [if_pos hw]
   rcases h with h | ⟨_, h⟩
   ·refine ⟨fun _ _ => trivial, ?_⟩
    rw [Oper.semAt_plain _ _ _ (hnd o ho)]
    unfold Oper.wp at h
    generalize (execOp a.eval o).run P w = r at *
    cases r with
    | ok x w' =>
     cases x <;> simp only [Oper.upon, Oper.uponIn] at h ⊢
     case value => exact h
     case skip => exact h
     case defer => exact h
     case enter => exact ⟨fun h => (by cases h), callsIn_wide.2 h⟩
     case row row args =>
      have hr : RowsIn Fence.wide (n - 1) P row args w' (fun v w'' => K (a.put o.dst v) w'') := fun c cs _ => let ⟨v, w'', r, s⟩ := h c cs; ⟨v, w'', r, stepsIn_wide.2 s⟩
      exact ⟨fun h => (by cases h), hr⟩
    | halt x w' => cases x <;> simp only [Oper.upon, Oper.uponIn] at h ⊢; exact h
   ·exact absurd h hlo
  ·rename_i hw
   rw [if_neg hw]
   exact ⟨fun _ _ => trivial, h⟩
theorem wpAnyIn_of_wpAnyW {md : Region.Mode} (hnd : ∀ (i : Nat) (o : Oper), ops[i]? = some o → ∀ c, o.op ≠ .defer c) (hlo : ¬ LetsOut Q) :
  ∀ (fuel : Nat) (listed : Array Bool) (a : Act) (w : World), wpAny P md ops Q fuel listed a w → wpAnyIn Fence.wide n P md ops Q fuel listed a w
 | 0, _, _, _, h => h
 | fuel + 1, listed, a, w, h => ⟨h.1, fun i hi => wpOpIn_mono (fun a' w' h' => wpAnyIn_of_wpAnyW hnd hlo fuel _ a' w' h') (wpOpIn_of_wpOpW (hnd i) hlo (h.2 i hi))⟩
theorem wpIn_region_wide {S : World → Prop} {id : Nat} {a : Act} {w : World} (hm : P.follows .mixedOrders = true) (hnd : noDefer ops = true) (hlo : ¬ LetsOut Q)
  (h : wpAnyH P .any ops Q S ops.size (Array.replicate ops.size false) a w.drew) : (Code.region id ops true).wpIn Fence.wide n P Q a w :=
 wpIn_region_any hm (wpAnyIn_of_wpAnyW (noDefer_spec hnd) hlo _ _ _ _ (wpAny_of_held _ _ _ _ h))
theorem wpIn_wide_drew {S : World → Prop} {id : Nat} {a : Act} {w : World} (hm : P.follows .mixedOrders = true) (hnd : noDefer ops = true) (hlo : ¬ LetsOut Q) (hS : S w.drew)
  (h : S w.drew → wpAnyH P .any ops Q S ops.size (Array.replicate ops.size false) a w.drew) : (Code.region id ops true).wpIn Fence.wide n P Q a w :=
 wpIn_region_wide hm hnd hlo (h hS)
def onlyN (Q : Exit → Act → World → Prop) : Exit → Act → World → Prop
 | .normal, a, w => Q .normal a w
 | _, _, _ => False
theorem onlyN_n {Q : Exit → Act → World → Prop} {a : Act} {w : World} (h : Q .normal a w) : onlyN Q .normal a w := h
theorem wpIn_onlyN {F : Fence} {c : Code} {Q : Exit → Act → World → Prop} {a : Act} {w : World} (h : c.wpIn F n P (onlyN Q) a w) : c.wpIn F n P Q a w :=
 wpIn_mono h (fun e a w h => by cases e <;> first | exact h | exact h.elim)
theorem onlyN_lets {Q : Exit → Act → World → Prop} : ¬ LetsOut (onlyN Q) := fun h => by
 obtain ⟨_, _, h⟩ := h
 exact h.elim
end Go.Proofs.YtlfikhblmbidmaaGreatDoor
namespace Go.Proofs.YtlfikhblmbidmaaGreatDoor
open Go.RowKit Go.Maps
attribute [local go_sem] Oper.semAt_some
def upAt (u : Int) (pre : List SltX) : Int := (pre.getLast?.map (fun x => wrap64 (x.1 + 1))).getD u
theorem upAt_snoc (u : Int) (pre : List SltX) (x : SltX) : upAt u (pre ++ [x]) = wrap64 (x.1 + 1) := by simp [upAt]
def withUp (s : LogSt) (v : Int) : LogSt := { s with upto := v }
theorem fromL_all {L : VL} : ∀ (n : Nat) (u : Int), (∀ x ∈ fromL L u n, x.2 = true) → ∀ j : Nat, j < n → (get (u + (j : Int)) L).isSome = true := fun n u h j hj => h (u + (j : Int), (get (u + (j : Int)) L).isSome) (List.mem_map.2 ⟨j, List.mem_range.2 hj, rfl⟩)
theorem missing_to (L : VL) : ∀ (k n : Nat) (u : Int), (∀ j : Nat, j < k → (get (u + (j : Int)) L).isSome = true) → k ≤ n → missing L u n = missing L (u + (k : Int)) (n - k)
 | 0, n, u, _, _ => by simp
 | k + 1, 0, u, _, h => by omega
 | k + 1, n + 1, u, h, hk => by
  have h0 := h 0 (by omega)
  rw [show u + ((0 : Nat) : Int) = u by omega] at h0
  have ih := missing_to L k n (u + 1) (fun j hj => by have := h (j + 1) (by omega); rw [show u + 1 + (j : Int) = u + ((j + 1 : Nat) : Int) by omega]; exact this) (by omega)
  rw [missing, if_pos h0, ih]
  congr 1
  ·omega
  ·omega
theorem upAt_from (L : VL) (u : Int) (h0 : 0 ≤ u) : ∀ k : Nat, u + (k : Int) ≤ 4096 → upAt u (fromL L u k) = u + (k : Int)
 | 0, _ => by simp [upAt, fromL]
 | k + 1, h => by rw [fromL_succ, upAt_snoc]; show wrap64 (u + (k : Int) + 1) = u + ((k + 1 : Nat) : Int); unfold wrap64; omega
theorem fill_done {s : LogSt} (hu : 0 ≤ s.upto ∧ s.upto ≤ s.top) (ht : s.top ≤ 4096) (h : ∀ x ∈ fromL s.L s.upto (s.top - s.upto).toNat, x.2 = true) : withUp s (upAt s.upto (fromL s.L s.upto (s.top - s.upto).toNat)) = lfill s := by
 rw [upAt_from _ _ hu.1 _ (by omega), lfill, missing_to s.L _ _ _ (fromL_all _ _ h) (Nat.le_refl _), Nat.sub_self]
 rfl
theorem fill_stop {s : LogSt} (hu : 0 ≤ s.upto ∧ s.upto ≤ s.top) (ht : s.top ≤ 4096) {k : Nat} {pre : List SltX} {x : SltX} (he : pre ++ [x] = fromL s.L s.upto k) (hk : k ≤ (s.top - s.upto).toNat) (hp : ∀ y ∈ pre, y.2 = true) (hx : x.2 = false) : withUp s (upAt s.upto pre) = lfill s := by
 cases k with
 | zero => simp [fromL] at he
 | succ k =>
  rw [fromL_succ] at he
  obtain ⟨rfl, hx2⟩ := List.append_inj' he rfl
  simp only [List.cons.injEq, and_true] at hx2
  subst hx2
  have hx3 : (get (s.upto + (k : Int)) s.L).isSome = false := hx
  rw [upAt_from _ _ hu.1 _ (by omega), lfill, missing_to s.L k _ _ (fromL_all _ _ hp) (by omega)]
  obtain ⟨n, hn⟩ : ∃ n, (s.top - s.upto).toNat - k = n + 1 := ⟨(s.top - s.upto).toNat - k - 1, by omega⟩
  rw [hn, missing, if_neg (by rw [hx3]; simp)]
  rfl
structure FlI (w : World) (p m : Nat) (s : LogSt) (pre : List SltX) (W : World) : Prop where
 all : ∀ x ∈ pre, x.2 = true
 st : LStep w p m W (withUp s (upAt s.upto pre))
 bx : Boxed W w.heap.size 36 (.pointer (some ⟨p, 0, none⟩))
theorem lstep_own {w : World} {p m : Nat} (B : Nat) (hB : w.heap.size ≤ B) (hp : p < B) (hm : m < B) {s : LogSt} {A C : World} {row : Option Nat} (h : LStep w p m A s) (hg : A.grownBy C row) (hr : ∀ r, row = some r → B ≤ r) : LStep w p m C s := by
 have hf : Fr (fun i => row = some i) A C := Fr.of_grown hg (fun i e => e)
 refine ⟨h.fr.trans' hf (fun i hi e => ?_), h.at_.fr hf (fun i hi e => ?_)⟩
 ·have := hr i e
  omega
 ·have := hr i e
  rcases hi with rfl | rfl <;> omega
theorem upset {w W : World} {p m : Nat} {s : LogSt} {u : Int} (h : LStep w p m W (withUp s u)) (v : Int) : LStep w p m (W.setCell ⟨p, 2, none⟩ (.int .i64 v)) (withUp s v) :=
 ⟨h.fr.setCell (.inl (.inl rfl)) _, h.at_.blk.set 2 (.int .i64 v), h.at_.map.of_block (Below.heap_setCell _ _ _ _ (Ne.symm h.at_.ne))⟩
set_option maxRecDepth 100000 in
set_option maxHeartbeats 2000000 in
theorem lfill_any {w : World} {p m : Nat} {s : LogSt} (h : LogAt w p m s) (hu : 0 ≤ s.upto ∧ s.upto ≤ s.top) (ht : s.top ≤ 4096) :
    Calls Tryz.prog 126 #[.pointer (some ⟨p, 0, none⟩)] w fun e w' => e = .returned (.tuple #[]) ∧ LStep w p m w' (lfill s) := by
  refine (callsIn_wide (n := 6)).1 ?_
  have hro : Fence.wide.round = none := rfl
  have c2 := h.c2
  have hlt := h.lt
  have H := Lib.hid h
  clear h
  refine callsIn_of_wp_marks Tryz.func126 rfl trivial ?_ hro
  simp only [Tryz.ntmps126, List.size_toArray, List.length_cons, List.length_nil, Nat.reduceAdd, Nat.reduceSub, Array.replicate_succ, Array.replicate_zero, List.push_toArray, List.append_toArray, List.nil_append, List.cons_append]
  gi_wp2
  have hb1 : Below w.heap.size w (w.alloc (.cells #[.pointer (some ⟨p, 0, none⟩)] 36)) := (Below.refl _ w).alloc (Nat.le_refl _) _
  have HL1 := Lib.hid (H.out.below hb1)
  have d2 := HL1.out.c2
  have dx := (Boxed.new w 36 (.pointer (some ⟨p, 0, none⟩))).cell
  refine wpIn_onlyN (wpIn_wide_drew (S := (fun W => W.cell? ⟨w.heap.size, 0, none⟩ = some (.pointer (some ⟨p, 0, none⟩)) ∧ W.cell? ⟨p, 2, none⟩ = some (.int .i64 s.upto))) (by kernel_rfl) (by kernel_rfl) onlyN_lets ?_ (fun hHeld => ?_))
  · exact ⟨dx, d2⟩
  try dsimp only at hHeld
  refine hY 0 (some 4) hHeld ?_
  refine hY 1 (some 5) hHeld ?_
  refine hY 2 (some 6) hHeld ?_
  refine hY 3 (some 7) hHeld ?_
  refine hY 4 (some 8) hHeld ?_
  refine wpAnyH_ready (rs := [5]) (by kernel_rfl) (by simp) ?_
  refine (AllReadyH.cons rfl (fun K' hK' => ?_) AllReadyH.nil)
  go_simp
  (refine (from_any p s.upto _).mono ?_; rintro e w3 ⟨rfl, rfl⟩)
  go_wp2_with fail
  refine hK'.out _ _ ?_ (fun hHeld => ?_)
  · exact ⟨Lib.cell?_alloc_some _ (Lib.cell?_alloc_some _ dx), Lib.cell?_alloc_some _ (Lib.cell?_alloc_some _ d2)⟩
  clear hK' K'
  try dsimp only at hHeld
  try simp only [Act.put, List.setIfInBounds_toArray, List.set_cons_zero, List.set_cons_succ]
  refine wpAnyH_done (by kernel_rfl) ?_ _
  refine onlyN_n ?_
  gi_wp2
  have hB2 : Below w.heap.size w (((w.alloc (Obj.cells #[Value.pointer (some { block := p, off := 0 })] 36)).alloc (Obj.cells #[Value.pointer (some { block := p, off := 0 })] 36)).alloc (Obj.cells #[Value.int IntKind.i64 s.upto] 3)).drew := ((hb1.alloc (by simp) _).alloc (by simp; omega) _).drew
  have bl : Boxed (((w.alloc (Obj.cells #[Value.pointer (some { block := p, off := 0 })] 36)).alloc (Obj.cells #[Value.pointer (some { block := p, off := 0 })] 36)).alloc (Obj.cells #[Value.int IntKind.i64 s.upto] 3)).drew w.heap.size 36 (.pointer (some ⟨p, 0, none⟩)) := ((Boxed.new w _ _).alloc _).alloc _
  have b1 : Boxed (((w.alloc (Obj.cells #[Value.pointer (some { block := p, off := 0 })] 36)).alloc (Obj.cells #[Value.pointer (some { block := p, off := 0 })] 36)).alloc (Obj.cells #[Value.int IntKind.i64 s.upto] 3)).drew (w.heap.size + 1) 36 (.pointer (some ⟨p, 0, none⟩)) := by
    have := (Boxed.new (w.alloc (Obj.cells #[Value.pointer (some { block := p, off := 0 })] 36)) 36 (.pointer (some ⟨p, 0, none⟩))).alloc (Obj.cells #[Value.int IntKind.i64 s.upto] 3)
    rwa [World.size_alloc] at this
  have b2 : Boxed (((w.alloc (Obj.cells #[Value.pointer (some { block := p, off := 0 })] 36)).alloc (Obj.cells #[Value.pointer (some { block := p, off := 0 })] 36)).alloc (Obj.cells #[Value.int IntKind.i64 s.upto] 3)).drew (w.heap.size + 1 + 1) 3 (.int .i64 s.upto) := by
    have := (Boxed.new ((w.alloc (Obj.cells #[Value.pointer (some { block := p, off := 0 })] 36)).alloc (Obj.cells #[Value.pointer (some { block := p, off := 0 })] 36)) 3 (.int .i64 s.upto))
    rwa [World.size_alloc, World.size_alloc] at this
  have hS2 : (((w.alloc (Obj.cells #[Value.pointer (some { block := p, off := 0 })] 36)).alloc (Obj.cells #[Value.pointer (some { block := p, off := 0 })] 36)).alloc (Obj.cells #[Value.int IntKind.i64 s.upto] 3)).drew.heap.size = w.heap.size + 3 := by simp
  have HL2 := Lib.hid (LStep.below H.out hB2)
  clear hHeld d2 dx c2
  generalize (((w.alloc (Obj.cells #[Value.pointer (some { block := p, off := 0 })] 36)).alloc (Obj.cells #[Value.pointer (some { block := p, off := 0 })] 36)).alloc (Obj.cells #[Value.int IntKind.i64 s.upto] 3)).drew = W0 at *
  refine wpIn_rangeFunc_ownG hro (by omega) (gf := 214) (lb := #[.pointer (some ⟨w.heap.size + 1 + 1, 0, none⟩), .pointer (some ⟨w.heap.size + 1, 0, none⟩)]) rfl trivial (enters_of Tryz.func214 (by kernel_rfl) rfl)
    (from_stops (6 - 1) (by omega) p m (w.heap.size + 1 + 1) (w.heap.size + 1) s s.upto W0 hu ht HL2.out.at_.c0 HL2.out.at_.c3 HL2.out.at_.map b2 b1) (fun h k => h.trans k) (fun W l o o' hl ho hc hw => by
      have lw := (Array.getElem?_eq_some_iff.1 ho).1
      exact KpS.of_fr (S := fun i => i = l) (Fr.of_grown (grownBy_putObj' W l o') (fun i e => by cases e; rfl)) (by omega) (by omega) (by omega) (by omega) (by omega) (by omega) (by omega) (by omega)) (Below.refl _ _) (fun _ => rfl)
    (fun pre W => FlI w p m s pre W) (fun c pre W => c = .ret ∧ ∃ pre' x, pre = pre' ++ [x] ∧ x.2 = false ∧ FlI w p m s pre' W)
    (fun pre A C row hs hg hr => ⟨hs.all, lstep_own _ (by omega) (by omega) (by omega) hs.st hg (fun r e => (hr r e).1), boxed_own _ _ (fun _ => _) pre A C row hs.bx hg (fun r e => (hr r e).2)⟩)
    (fun c pre A C row hs hg hr => by
      obtain ⟨hc, pre', x, h1, h2, h3⟩ := hs
      exact ⟨hc, pre', x, h1, h2, h3.all, lstep_own _ (by omega) (by omega) (by omega) h3.st hg (fun r e => (hr r e).1), boxed_own _ _ (fun _ => _) pre A C row h3.bx hg (fun r e => (hr r e).2)⟩)
    ⟨fun x hx => by (cases hx), HL2.out, bl⟩
    (fun x => { tmps := #[Value.pointer (some { block := p, off := 0 }), Value.pointer (some { block := w.heap.size, off := 0 }), .int .i64 x.1,
          .bool x.2, Value.pointer (some { block := p, off := 0 }), Value.pointer (some { block := p, off := 0 }),
          Value.pointer (some { block := p, off := 0 }), Value.pointer (some { block := p, off := 2 }),
          Value.int IntKind.i64 s.upto,
          Value.func (Fn.func 214) #[]
            #[Value.pointer (some { block := w.heap.size + 1 + 1, off := 0 }),
              Value.pointer (some { block := w.heap.size + 1, off := 0 })],
          .int .i64 x.1, .bool x.2, undef, undef, undef, undef, undef, undef, undef], defers := [] }) ?assign ?body ?done ?stop
  case assign =>
    intro l x W K hK
    gi_wp2
    exact hK
  case body =>
    rintro l pre ⟨i, is⟩ W hI hlt
    have c1 := hI.bx.cell
    have c2 := hI.st.at_.c2
    have f2 := hI.st.at_.blk.frozen 2
    have HI := Lib.hid hI
    clear hI
    cases is
    · gi_wp2
      exact ⟨KeepsFrom.refl _ _, rfl, pre, (i, false), rfl, rfl, HI.out⟩
    · gi_wp2
      have hn := HI.out.st.at_.ne
      have hk : KpS p m (w.heap.size + 1 + 1) (w.heap.size + 1) W (W.setCell ⟨p, 2, none⟩ (.int .i64 (wrap64 (i + 1)))) := ⟨World.cell?_setCell_other _ _ _ _ (by simp), World.cell?_setCell_other _ _ _ _ (by simp), Below.heap_setCell _ _ _ _ (Ne.symm hn), Below.heap_setCell _ _ _ _ (by show w.heap.size + 1 + 1 ≠ p; omega), Below.heap_setCell _ _ _ _ (by show w.heap.size + 1 ≠ p; omega)⟩
      refine ⟨(KeepsOthers.setCell _ _ _).from _, hk, fun x hx => ?_, ?_, (Below.heap_setCell _ _ _ _ (by show w.heap.size ≠ p; omega)).trans HI.out.bx⟩
      · rcases List.mem_append.1 hx with hx | hx
        · exact HI.out.all x hx
        · rw [List.mem_singleton.1 hx]
      · rw [upAt_snoc]
        exact upset HI.out.st _
  case done =>
    rintro D ys W hD rfl hI hK
    have hst := hI.st
    rw [fill_done hu ht hI.all] at hst
    gi_wp2
    refine ⟨by simp, .inl ⟨_, _, rfl, run_takeDeferred hK, ?_⟩⟩
    exact ⟨_, results_none rfl _ _ _, rfl, lstep_own (w.heap.size + 3) (by omega) (by omega) (by omega) hst (grownBy_putObj' _ D (.deferred none)) (fun r e => by cases e; omega)⟩
  case stop =>
    rintro D c pre W hD ⟨k, hk1, hk2⟩ ⟨rfl, pre', x, rfl, hx, hI⟩ hK
    have hst := hI.st
    rw [fill_stop hu ht hk1 hk2 hI.all hx] at hst
    gi_wp2
    refine ⟨by simp, .inl ⟨_, _, rfl, run_takeDeferred hK, ?_⟩⟩
    exact ⟨_, results_none rfl _ _ _, rfl, lstep_own (w.heap.size + 3) (by omega) (by omega) (by omega) hst (grownBy_putObj' _ D (.deferred none)) (fun r e => by cases e; omega)⟩
end Go.Proofs.YtlfikhblmbidmaaGreatDoor
namespace Go.Proofs.YtlfikhblmbidmaaGreatDoor
open Go.RowKit Go.Maps
theorem toList_inj {a b : ByteArray} (h : a.toList = b.toList) : a = b := by
 rw [ByteArray.toList_eq, ByteArray.toList_eq] at h
 obtain ⟨⟨x⟩⟩ := a
 obtain ⟨⟨y⟩⟩ := b
 simp at h
 rw [h]
theorem str_eq (a b : ByteArray) : (a.toList == b.toList) = decide (a = b) := by
 by_cases h : a = b
 ·subst h; simp
 ·rw [decide_eq_false h, Bool.eq_false_iff]
  intro h2
  exact h (toList_inj (by simpa using h2))
section
variable {w : World} {p m : Nat} {s : LogSt}
theorem lput_bad1 (k : Int) (v : ByteArray) (h : LogAt w p m s) (hk : k < 0) :
  Calls Tryz.prog 42 #[.pointer (some ⟨p, 0, none⟩), .int .i64 k, .string v] w fun e w' => e = .returned (.int .i64 2) ∧ w = w' := by
 have c0 := h.c0
 have hk' : decide (k < 0) = true := by simp; omega
 clear h
 go_enter Tryz.func42, Tryz.ntmps42
 go_wp2_with (go_at_call 125; refine (lmade_yes p m w c0).mono ?_; rintro e w' ⟨rfl, rfl⟩)
 go_returns
 exact ⟨rfl, rfl⟩
theorem lput_bad2 (k : Int) (v : ByteArray) (h : LogAt w p m s) (hk : ¬ k < 0) (hk2 : 4096 ≤ k) :
  Calls Tryz.prog 42 #[.pointer (some ⟨p, 0, none⟩), .int .i64 k, .string v] w fun e w' => e = .returned (.int .i64 2) ∧ w = w' := by
 have c0 := h.c0
 clear h
 go_enter Tryz.func42, Tryz.ntmps42
 go_wp2_with (go_at_call 125; refine (lmade_yes p m w c0).mono ?_; rintro e w' ⟨rfl, rfl⟩)
 go_returns
 exact ⟨rfl, rfl⟩
theorem lput_long (k : Int) (v : ByteArray) (h : LogAt w p m s) (hk : ¬ k < 0) (hk2 : ¬ 4096 ≤ k) (hv : 65536 < v.size) :
  Calls Tryz.prog 42 #[.pointer (some ⟨p, 0, none⟩), .int .i64 k, .string v] w fun e w' => e = .returned (.int .i64 11) ∧ w = w' := by
 have c0 := h.c0
 clear h
 have hv' : decide ((v.size : Int) > 65536) = true := by simp; omega
 go_enter Tryz.func42, Tryz.ntmps42
 go_wp2_with (go_at_call 125; refine (lmade_yes p m w c0).mono ?_; rintro e w' ⟨rfl, rfl⟩)
 go_returns
 exact ⟨rfl, rfl⟩
theorem lput_order (k : Int) (v : ByteArray) (h : LogAt w p m s) (hk : ¬ k < 0) (hk2 : ¬ 4096 ≤ k) (hv : ¬ 65536 < v.size) (hb : k < s.base) :
  Calls Tryz.prog 42 #[.pointer (some ⟨p, 0, none⟩), .int .i64 k, .string v] w fun e w' => e = .returned (.int .i64 8) ∧ w = w' := by
 have c0 := h.c0
 have c1 := h.c1
 clear h
 have hv' : decide ((v.size : Int) > 65536) = false := by simp; omega
 go_enter Tryz.func42, Tryz.ntmps42
 go_wp2_with (go_at_call 125; refine (lmade_yes p m w c0).mono ?_; rintro e w' ⟨rfl, rfl⟩)
 go_returns
 exact ⟨rfl, rfl⟩
set_option maxRecDepth 100000 in
set_option maxHeartbeats 2000000 in
theorem lput_state (k : Int) (v u : ByteArray) (h : LogAt w p m s) (hk : ¬ k < 0) (hk2 : ¬ 4096 ≤ k) (hv : ¬ 65536 < v.size) (hb : ¬ k < s.base) (hg : get k s.L = some u) (hne : u ≠ v) :
  Calls Tryz.prog 42 #[.pointer (some ⟨p, 0, none⟩), .int .i64 k, .string v] w fun e w' => e = .returned (.int .i64 9) ∧ w = w' := by
 have c0 := h.c0
 have c1 := h.c1
 have HM := Lib.hid h.map
 have hg1 : get k (encF strV s.L) = some (.string u) := by rw [get_encF, hg]; rfl
 have HG1 : Hid ((get k (encF strV s.L)).getD (.string ⟨#[]⟩) = .string u ∧ (get k (encF strV s.L)).isSome = true) := by rw [hg1]; exact ⟨rfl, rfl⟩
 clear h hg1 hg
 have hne' : (u.toList == v.toList) = false := by rw [str_eq]; simpa using hne
 have hv' : decide ((v.size : Int) > 65536) = false := by simp; omega
 go_enter Tryz.func42, Tryz.ntmps42
 go_wp2_with (first
  | (go_at_call 125; refine (lmade_yes p m w c0).mono ?_; rintro e w' ⟨rfl, rfl⟩)
  | (at_lookup; refine wpList_look _ rfl _ _ 167 rfl 3 9 Tryz.underlying3 Tryz.underlying167 (.string ⟨#[]⟩) (zeroStr w) m _ rfl HM.out k rfl (wf64 (by omega)) ?_; rw [HG1.out.1, HG1.out.2]))
 go_returns
 exact ⟨rfl, rfl⟩
set_option maxRecDepth 100000 in
set_option maxHeartbeats 2000000 in
theorem lput_go (k : Int) (v : ByteArray) (h : LogAt w p m s) (hg : LGood s) (he : lputE s k v = 0) (hl : s.L.length ≤ 100000) :
  Calls Tryz.prog 42 #[.pointer (some ⟨p, 0, none⟩), .int .i64 k, .string v] w fun e w' => e = .returned (.int .i64 0) ∧ LStep w p m w' (lputS s k v) := by
 obtain ⟨hk, hk2, hv, hb, hsame⟩ := lputE_zero.1 he
 have hS : lputS s k v = lfill { s with L := put k v s.L, top := max s.top (k + 1) } := by unfold lputS; rw [if_pos he]
 rw [hS]
 have hup := hg.ut
 have hbu := hg.bu
 have hb0 := hg.b0
 have ht1 := hg.t1
 have c0 := h.c0
 have c1 := h.c1
 have c3 := h.c3
 have f3 := h.blk.frozen 3
 have hv' : decide ((v.size : Int) > 65536) = false := by simp; omega
 have hk' : decide (k < 0) = false := by simp; omega
 have hk2' : decide (k ≥ 4096) = false := by simp; omega
 have hb' : decide (k < s.base) = false := by simp; omega
 have H := Lib.hid h
 clear h he hS hg
 rcases hgk : get k s.L with _ | u
 ·have hg1 : get k (encF strV s.L) = none := by rw [get_encF, hgk]; rfl
  have HG1 : Hid ((get k (encF strV s.L)).getD (.string ⟨#[]⟩) = .string ⟨#[]⟩ ∧ (get k (encF strV s.L)).isSome = false) := by rw [hg1]; exact ⟨rfl, rfl⟩
  clear hg1 hgk hsame
  go_enter Tryz.func42, Tryz.ntmps42
  go_wp2_with (first
   | (go_at_call 125; refine (lmade_yes p m w c0).mono ?_; rintro e w' ⟨rfl, rfl⟩)
   | (at_lookup; refine wpList_look _ rfl _ _ 167 rfl 3 9 Tryz.underlying3 Tryz.underlying167 (.string ⟨#[]⟩) (zeroStr w) m _ rfl H.out.map k rfl (wf64 (by omega)) ?_; rw [HG1.out.1, HG1.out.2])
   | (at_mapUpdate; refine wpList_upd _ rfl _ _ _ 167 rfl 3 9 Tryz.underlying3 Tryz.underlying167 m (encF strV s.L) rfl H.out.map (by rw [encF_length]; omega) k (.string v) rfl rfl (wf64 (by omega)) ?_; rintro w5 hm5 hg5; rw [put_encF strV k v] at hm5; have d3 : w5.cell? ⟨p, 3, none⟩ = some (.int .i64 s.top) := (Fr.of_grown (S := S1 m) hg5 (fun i e => by cases e; rfl)).cell H.out.ne c3; have hb5 := H.out.blk.fr (Fr.of_grown (S := S1 m) hg5 (fun i e => by cases e; rfl)) H.out.ne; have g3 := hb5.frozen 3; have HB5 := Lib.hid hb5; have HM5 := Lib.hid hm5; have HG5 := Lib.hid hg5; clear hm5 hg5 hb5)
   | (go_at_call 126; refine (lfill_any (s := { s with L := put k v s.L, top := max s.top (k + 1) }) ⟨HB5.out.set 3 (.int .i64 (max s.top (k + 1))), HM5.out.of_block (Below.heap_setCell _ _ _ _ (Ne.symm H.out.ne))⟩ ⟨by show 0 ≤ s.upto; omega, by show s.upto ≤ max s.top (k + 1); omega⟩ (by show max s.top (k + 1) ≤ 4096; omega)).mono ?_; rintro e w7 ⟨rfl, h7⟩; have H7 := Lib.hid h7; clear h7))
  go_returns
  exact ⟨rfl, (((Fr.of_grown HG5.out (fun i e => by cases e; exact .inr rfl)).setCell (.inl (.inl rfl)) _).trans H7.out.fr), H7.out.at_⟩
 ·have hg1 : get k (encF strV s.L) = some (.string u) := by rw [get_encF, hgk]; rfl
  have HG1 : Hid ((get k (encF strV s.L)).getD (.string ⟨#[]⟩) = .string u ∧ (get k (encF strV s.L)).isSome = true) := by rw [hg1]; exact ⟨rfl, rfl⟩
  rw [hgk] at hsame
  obtain rfl : u = v := by simpa using hsame
  have hne' : (u.toList == u.toList) = true := by rw [str_eq]; simp
  clear hg1 hgk hsame
  go_enter Tryz.func42, Tryz.ntmps42
  go_wp2_with (first
   | (go_at_call 125; refine (lmade_yes p m w c0).mono ?_; rintro e w' ⟨rfl, rfl⟩)
   | (at_lookup; refine wpList_look _ rfl _ _ 167 rfl 3 9 Tryz.underlying3 Tryz.underlying167 (.string ⟨#[]⟩) (zeroStr w) m _ rfl H.out.map k rfl (wf64 (by omega)) ?_; rw [HG1.out.1, HG1.out.2])
   | (at_mapUpdate; refine wpList_upd _ rfl _ _ _ 167 rfl 3 9 Tryz.underlying3 Tryz.underlying167 m (encF strV s.L) rfl H.out.map (by rw [encF_length]; omega) k (.string u) rfl rfl (wf64 (by omega)) ?_; rintro w5 hm5 hg5; rw [put_encF strV k u] at hm5; have d3 : w5.cell? ⟨p, 3, none⟩ = some (.int .i64 s.top) := (Fr.of_grown (S := S1 m) hg5 (fun i e => by cases e; rfl)).cell H.out.ne c3; have hb5 := H.out.blk.fr (Fr.of_grown (S := S1 m) hg5 (fun i e => by cases e; rfl)) H.out.ne; have g3 := hb5.frozen 3; have HB5 := Lib.hid hb5; have HM5 := Lib.hid hm5; have HG5 := Lib.hid hg5; clear hm5 hg5 hb5)
   | (go_at_call 126; refine (lfill_any (s := { s with L := put k u s.L, top := max s.top (k + 1) }) ⟨HB5.out.set 3 (.int .i64 (max s.top (k + 1))), HM5.out.of_block (Below.heap_setCell _ _ _ _ (Ne.symm H.out.ne))⟩ ⟨by show 0 ≤ s.upto; omega, by show s.upto ≤ max s.top (k + 1); omega⟩ (by show max s.top (k + 1) ≤ 4096; omega)).mono ?_; rintro e w7 ⟨rfl, h7⟩; have H7 := Lib.hid h7; clear h7))
  go_returns
  exact ⟨rfl, (((Fr.of_grown HG5.out (fun i e => by cases e; exact .inr rfl)).setCell (.inl (.inl rfl)) _).trans H7.out.fr), H7.out.at_⟩
end
end Go.Proofs.YtlfikhblmbidmaaGreatDoor
namespace Go.Proofs.YtlfikhblmbidmaaGreatDoor
open Go.RowKit Go.Maps
theorem vl_len {lo hi : Int} : ∀ {L : VL}, Srt L → (∀ p ∈ L, lo ≤ p.1 ∧ p.1 < hi) → L = [] ∨ (L.length : Int) ≤ hi - lo
 | [], _, _ => .inl rfl
 | x :: r, h, hb => by
  right
  have h1 := List.pairwise_cons.1 h
  have hx := hb x (by simp)
  have ih := vl_len (lo := x.1 + 1) (hi := hi) h1.2 (fun p hp => ⟨by have := h1.1 p hp; omega, (hb p (by simp [hp])).2⟩)
  rcases ih with rfl | ih
  ·simp; omega
  ·simp; omega
theorem LGood.len {s : LogSt} (h : LGood s) : s.L.length ≤ 4096 := by
 have h1 := h.t1
 have h2 := h.b0
 rcases vl_len h.srt h.keys with e | e
 ·rw [e]; simp
 ·omega
structure LS (w : World) (p m : Nat) (s : LogSt) : Prop where
 at_ : LogAt w p m s
 good : LGood s
namespace LS
variable {w w' : World} {p m : Nat} {s : LogSt}
theorem fr {S : Nat → Prop} (h : LS w p m s) (k : Fr S w w') (hS : ∀ i, lF p m i → ¬ S i) : LS w' p m s := ⟨h.at_.fr k hS, h.good⟩
theorem below (h : LS w p m s) (k : Below w.heap.size w w') : LS w' p m s := ⟨h.at_.below k, h.good⟩
theorem lt (h : LS w p m s) : p < w.heap.size ∧ m < w.heap.size := h.at_.lt
end LS
section
variable {w : World} {p m : Nat} {s : LogSt}
theorem lput_any (k : Int) (v : ByteArray) (h : LS w p m s) :
  Calls Tryz.prog 42 #[.pointer (some ⟨p, 0, none⟩), .int .i64 k, .string v] w fun e w' => e = .returned (.int .i64 (lputE s k v)) ∧ LS w' p m (lputS s k v) ∧ Fr (lF p m) w w' := by
 have hst : ∀ c : Int, c ≠ 0 → lputE s k v = c → Calls Tryz.prog 42 #[.pointer (some ⟨p, 0, none⟩), .int .i64 k, .string v] w (fun e w' => e = .returned (.int .i64 c) ∧ w = w') →
   Calls Tryz.prog 42 #[.pointer (some ⟨p, 0, none⟩), .int .i64 k, .string v] w fun e w' => e = .returned (.int .i64 (lputE s k v)) ∧ LS w' p m (lputS s k v) ∧ Fr (lF p m) w w' := fun c hc he hC => by
  refine hC.mono ?_
  rintro e w' ⟨rfl, rfl⟩
  refine ⟨by rw [he], ?_, Fr.refl _ _⟩
  unfold lputS
  rw [if_neg (by rw [he]; exact hc)]
  exact h
 by_cases h0 : k < 0
 ·exact hst 2 (by decide) (by unfold lputE; rw [if_pos (Or.inl h0)]) (lput_bad1 k v h.at_ h0)
 by_cases h1 : 4096 ≤ k
 ·exact hst 2 (by decide) (by unfold lputE; rw [if_pos (Or.inr h1)]) (lput_bad2 k v h.at_ h0 h1)
 have h01 : ¬ (k < 0 ∨ 4096 ≤ k) := by omega
 by_cases h2 : 65536 < v.size
 ·exact hst 11 (by decide) (by unfold lputE; rw [if_neg h01, if_pos h2]) (lput_long k v h.at_ h0 h1 h2)
 by_cases h3 : k < s.base
 ·exact hst 8 (by decide) (by unfold lputE; rw [if_neg h01, if_neg h2, if_pos h3]) (lput_order k v h.at_ h0 h1 h2 h3)
 by_cases h4 : (get k s.L).isSome = true ∧ get k s.L ≠ some v
 ·obtain ⟨h4a, h4b⟩ := h4
  obtain ⟨u, hu⟩ := Option.isSome_iff_exists.1 h4a
  exact hst 9 (by decide) (by unfold lputE; rw [if_neg h01, if_neg h2, if_neg h3, if_pos ⟨h4a, h4b⟩]) (lput_state k v u h.at_ h0 h1 h2 h3 hu (fun e => h4b (by rw [hu, e])))
 ·have he : lputE s k v = 0 := by unfold lputE; rw [if_neg h01, if_neg h2, if_neg h3, if_neg h4]
  refine (lput_go k v h.at_ h.good he (by have := h.good.len; omega)).mono ?_
  rintro e w' ⟨rfl, hs⟩
  exact ⟨by rw [he], ⟨hs.at_, h.good.put k v⟩, hs.fr⟩
theorem lclone (b : Nat) (es : Array MapEntry) (clock : Nat) (w : World) (hb : w.heap[b]? = some (.map es clock)) :
  Calls Tryz.prog 148 #[.map (some b)] w fun e w' => e = .returned (.map (some w.heap.size)) ∧ w' = w.alloc (.map es clock) :=
 AnyW.maps_Clone Tryz.cloneS b es clock w hb
set_option maxHeartbeats 400000 in
theorem lcopy_any (h : LS w p m s) : Calls Tryz.prog 61 #[.pointer (some ⟨p, 0, none⟩)] w fun e w' => ∃ p' m', e = .returned (.pointer (some ⟨p', 0, none⟩)) ∧ LS w' p' m' s ∧ w.heap.size ≤ p' ∧ w.heap.size ≤ m' ∧ Below w.heap.size w w' := by
 have hg := h.good
 have h := h.at_
 have c0 := h.c0
 have c1 := h.c1
 have c2 := h.c2
 have c3 := h.c3
 obtain ⟨es, clock, hm⟩ := h.map.block
 have hp := h.lt
 have hcs : ∃ cs, cs = (Obj.cells #[.map (some m), .int .i64 s.base, .int .i64 s.upto, .int .i64 s.top] 169) := ⟨_, rfl⟩
 obtain ⟨cs, hcs⟩ := hcs
 have h2 := h.below ((Below.refl _ w).alloc (Nat.le_refl _) cs)
 have d3 := h2.c0
 have hm2 : (w.alloc cs).heap[m]? = some (.map es clock) := (Below.heap_alloc w cs m hp.2).trans hm
 subst hcs
 have b2 := Blk.new w 169 #[.map (some m), .int .i64 s.base, .int .i64 s.upto, .int .i64 s.top]
 have b3 := b2.alloc (.map es clock)
 have f3 := b3.frozen 0
 have HT := Lib.hid h
 have HM := Lib.hid hm
 have HM2 := Lib.hid hm2
 clear h hm hm2 h2 b2 b3
 go_enter Tryz.func61, Tryz.ntmps61
 go_wp2_with (first
  | (go_at_call 125; refine (lmade_yes p m w c0).mono ?_; rintro e w' ⟨rfl, rfl⟩)
  | (go_at_call 148; refine (lclone m es clock _ HM2.out).mono ?_; rintro e w' ⟨rfl, rfl⟩))
 go_returns
 refine ⟨w.heap.size, w.heap.size + 1, rfl, ⟨⟨(Blk.new w _ _).alloc _, HT.out.map.clone HM.out ?_⟩, hg⟩, Nat.le_refl _, by omega, ((Below.refl _ _).alloc (Nat.le_refl _) _).alloc (by simp) _⟩
 have := (MapKept.heap_alloc (w.alloc (.cells #[.map (some (w.heap.size + 1)), .int .i64 s.base, .int .i64 s.upto, .int .i64 s.top] 169)) (.map es clock)).1
 rwa [World.size_alloc] at this
end
end Go.Proofs.YtlfikhblmbidmaaGreatDoor