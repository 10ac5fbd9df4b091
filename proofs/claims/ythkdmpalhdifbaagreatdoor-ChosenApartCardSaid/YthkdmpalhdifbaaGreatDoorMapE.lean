/- A map's entry taken ahead of what is stored into it ('m[k], n[j] = x, y'): the steps of a drawn region. -/
import Derived.Test.YthkdmpalhdifbaaGreatDoorMapG
import Derived.WideKeyEntry
set_option linter.unusedVariables false
set_option linter.unusedSimpArgs false
namespace Go.Proofs.YthkdmpalhdifbaaGreatDoor
open Go.RowKit Go.Maps
open Go.ChangeMaps (setBlock heap_setBlock_same heap_setBlock_other)

section
variable {κ β : Type} [DecidableEq κ] {P : Program} {k : TypeId} {C : KeyC P k κ} {f : β → Value} {w : World} {b : Nat} {L : List (κ × β)}
theorem grown_setBlock {es : Array MapEntry} {clock : Nat} (hb : w.heap[b]? = some (.map es clock)) (o : Obj) : w.grownBy (setBlock w b o) (some b) :=
  ⟨rfl, rfl, rfl, by simp [setBlock], fun i _ hi => heap_setBlock_other hb _ (fun e => hi (by rw [e]))⟩
theorem setBlock_twice (o o' : Obj) : setBlock (setBlock w b o) b o' = setBlock w b o' := by simp [setBlock]
theorem entG (K : WideMaps.KeyLaw P k) {t e : TypeId} (ht : P.underlying t = some (.map k e)) {z : Value} (hz : ∀ u : World, (zeroValue e).run P u = .ok z u) (hown : MapG C f w b L) (hn : L.length < 1000000000) (i : κ) (hi : C.ok i) :
    ∃ (v0 : Value) (st : Nat) (w1 : World), (Instr.mapEntry t (.map (some b)) (C.enc i)).run P w = .ok (.tuple #[v0, goInt st]) w1 ∧ w.grownBy w1 (some b) ∧
      ∀ val, ∃ w3, (Instr.entryStore t (.map (some b)) (goInt st) (f val)).run P w1 = .ok () w3 ∧ MapG C f w3 b (putG i val L) ∧ w.grownBy w3 (some b) := by
  have K' := Keyed.of_law K
  have ho := hown.own
  obtain ⟨es, clock, hb, F, hs, hD⟩ := ho
  obtain ⟨v0, st, es1, c1, hr, _, hst⟩ := WideElems.entry_then_store K ht hz hb F (C.key i hi)
  refine ⟨v0, st, _, hr, grown_setBlock hb _, fun val => ?_⟩
  obtain ⟨es', c', hrun2, hupd⟩ := hst (setBlock w b (.map es1 c1)) (f val) (heap_setBlock_same hb _)
  obtain ⟨w', hrun, r1, r2⟩ := World.ownsMap.update hown.own K' ht (by unfold maxLen; omega) (C.key i hi) (show RV (f val) = some (.held (f val), []) from rfl)
  rw [hupd] at hrun
  obtain rfl : setBlock w b (.map es' c') = w' := by injection hrun
  rw [setBlock_twice] at hrun2
  refine ⟨_, hrun2, ?_, r2⟩
  rw [datG_put K' hown.dst hown.ok i hi] at r1
  refine MapG.of_own r1 (dst_put hown.dst) fun p hp => ?_
  rcases mem_putG.1 hp with rfl | ⟨hp, _⟩
  · exact hi
  · exact hown.ok p hp
theorem updG (K : Keyed P k) {t e : TypeId} (ht : P.underlying t = some (.map k e)) (hown : MapG C f w b L) (hn : L.length < 1000000000) (i : κ) (hi : C.ok i) (val : β) :
    ∃ w3, (Instr.mapUpdate t (.map (some b)) (C.enc i) (f val)).run P w = .ok () w3 ∧ MapG C f w3 b (putG i val L) ∧ w.grownBy w3 (some b) := by
  obtain ⟨w', hrun, r1, r2⟩ := World.ownsMap.update hown.own K ht (by unfold maxLen; omega) (C.key i hi) (show RV (f val) = some (.held (f val), []) from rfl)
  refine ⟨w', hrun, ?_, r2⟩
  rw [datG_put K hown.dst hown.ok i hi] at r1
  refine MapG.of_own r1 (dst_put hown.dst) fun p hp => ?_
  rcases mem_putG.1 hp with rfl | ⟨hp, _⟩
  · exact hi
  · exact hown.ok p hp
theorem grown_cell {w' : World} (h : w.grownBy w' (some b)) {p : Addr} {v : Value} (hp : p.block ≠ b) (hc : w.cell? p = some v) : w'.cell? p = some v :=
  (Fr.of_grown (S := S1 b) h (fun i e => by cases e; rfl)).cell (fun e => hp e) hc
end
section
variable {P : Program} {w w1 : World} {ops : Array Oper} {o : Oper} {a : Act} {K : Act → World → Prop} {Q : Exit → Act → World → Prop} {E : Prop}
theorem step_ent (hgd : o.guard = none) (m x : Operand) (t : TypeId) (ho : o.op = .mapEntry t m x) {mv xv v : Value} (hm : a.eval m = mv) (hx : a.eval x = xv) (hrun : (Instr.mapEntry t mv xv).run P w = .ok v w1)
    (h : K (a.put o.dst v) w1) : if Region.wanted o (yielded ops a.tmps) = true then Oper.wp P o a w K Q else E := by
  have hw : Region.wanted o (yielded ops a.tmps) = true := by simp [Region.wanted, hgd]
  rw [if_pos hw]
  unfold Oper.wp
  simp [execOp, ho, hm, hx, hrun, Result.andThen]
  exact h
theorem step_est (hgd : o.guard = none) (m s v : Operand) (t : TypeId) (ho : o.op = .entryStore t m s v) {mv sv vv : Value} (hm : a.eval m = mv) (hs : a.eval s = sv) (hv : a.eval v = vv) (hrun : (Instr.entryStore t mv sv vv).run P w = .ok () w1)
    (h : K (a.put o.dst undef) w1) : if Region.wanted o (yielded ops a.tmps) = true then Oper.wp P o a w K Q else E := by
  have hw : Region.wanted o (yielded ops a.tmps) = true := by simp [Region.wanted, hgd]
  rw [if_pos hw]
  unfold Oper.wp
  simp [execOp, ho, hm, hs, hv, hrun, Result.andThen]
  exact h
theorem step_upd (hgd : o.guard = none) (m x v : Operand) (t : TypeId) (ho : o.op = .mapUpdate t m x v) {mv xv vv : Value} (hm : a.eval m = mv) (hx : a.eval x = xv) (hv : a.eval v = vv) (hrun : (Instr.mapUpdate t mv xv vv).run P w = .ok () w1)
    (h : K (a.put o.dst undef) w1) : if Region.wanted o (yielded ops a.tmps) = true then Oper.wp P o a w K Q else E := by
  have hw : Region.wanted o (yielded ops a.tmps) = true := by simp [Region.wanted, hgd]
  rw [if_pos hw]
  unfold Oper.wp
  simp [execOp, ho, hm, hx, hv, hrun, Result.andThen]
  exact h
end
end Go.Proofs.YthkdmpalhdifbaaGreatDoor
