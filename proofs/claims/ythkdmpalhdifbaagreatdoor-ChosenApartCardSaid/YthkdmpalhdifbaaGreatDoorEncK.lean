/- Lists of pairs with their values laid into memory's values by a function; the step of a range over such a map. -/
import Derived.Test.YthkdmpalhdifbaaGreatDoorFrame
import Derived.Deep.RegionHeld3
import Derived.Handy
import Derived.Laws.ResultCell
set_option linter.unusedVariables false
set_option linter.unusedSimpArgs false
namespace Go.Proofs.YthkdmpalhdifbaaGreatDoor
open Go.RowKit Go.Maps

theorem bcell {W w1 : World} (hb : Below W.heap.size W w1) {p : Addr} {v : Value} (h : W.cell? p = some v) : w1.cell? p = some v := by
  obtain ⟨o, ho, _⟩ := cells_of_cell h
  exact (hb.cell (Array.getElem?_eq_some_iff.1 ho).1).trans h
theorem take_snoc {α : Type} {L : List α} {i : Nat} {x : α} (h : L[i]? = some x) : L.take (i + 1) = L.take i ++ [x] := by
  rw [List.take_add_one, h]; rfl
theorem bchain {a b c : World} (h : Below a.heap.size a b) (k : Below b.heap.size b c) : Below a.heap.size a c := h.trans (k.mono h.size)
theorem Fr.upB {S : Nat → Prop} {W a b : World} (h : Below W.heap.size W a) (k : Fr S a b) (hS : ∀ i, S i → W.heap.size ≤ i) : Below W.heap.size W b := h.trans (k.below h.size hS)
theorem below_drewN {B : Nat} {a w : World} (h : Below B a w) (n : Nat) : Below B a (w.drewN n) := ⟨h.os, h.tape, h.output, h.size, h.block⟩

section
variable {β : Type} (f : Int → β → Value)
/-- Each pair's value laid in by f. -/
def encF (L : List (Int × β)) : List (Int × Value) := L.map fun p => (p.1, f p.1 p.2)
theorem encF_length (L : List (Int × β)) : (encF f L).length = L.length := by simp [encF]
theorem get_encF (k : Int) : ∀ L : List (Int × β), get k (encF f L) = (get k L).map (f k)
  | [] => rfl
  | y :: r => by
    have ih := get_encF k r
    simp only [get, encF, List.map_cons, List.find?_cons] at ih ⊢
    by_cases e : y.1 = k
    · subst e; simp
    · have e2 : (y.1 == k) = false := by simpa using e
      rw [e2]
      exact ih
theorem del_encF (k : Int) (L : List (Int × β)) : del k (encF f L) = encF f (del k L) := by
  unfold del encF
  rw [List.filter_map]
  rfl
theorem insS_encF (x : Int × β) : ∀ L : List (Int × β), insS (x.1, f x.1 x.2) (encF f L) = encF f (insS x L)
  | [] => rfl
  | y :: r => by
    have ih := insS_encF x r
    simp only [encF, List.map_cons, insS] at ih ⊢
    split
    · rfl
    · simp only [List.map_cons]; rw [ih]
theorem put_encF (k : Int) (v : β) (L : List (Int × β)) : put k (f k v) (encF f L) = encF f (put k v L) := by
  unfold put
  rw [del_encF, insS_encF f (k, v)]
end

section
variable {P : Program} (w : World) {ops : Array Oper} {rest : List Oper} {o : Oper} {a : Act} {Q : Exit → Act → World → Prop}
/-- The step of a range over a map with int keys. -/
theorem wpList_next_encF {β : Type} (f : Int → β → Value) (hg : o.guard = none) (it : Operand) (hop : o.op = Op.next it false) (k : TypeId) (hk : P.underlying k = some (.int .i64))
    (b r n : Nat) (L : List (Int × β)) (left : Lit → Bool) (cnt : Nat) (hit : a.eval it = .pointer (some ⟨r, 0, none⟩)) (h : w.ranges P k RV b r n (dat (encF f L)) left cnt)
    (hDone : cnt = 0 → (∀ kl, left kl = false) → wpList P ops Q rest (a.put o.dst (.tuple #[.bool false])) w)
    (hMore : ∀ (x : Int) (e : β) (w' : World) (cnt' : Nat), (Lit.int .i64 x).wf = true → left (.int .i64 x) = true → get x L = some e → w'.ranges P k RV b r n (dat (encF f L)) (fun z => left z && !z.sameKey (.int .i64 x)) cnt' → cnt' < cnt →
      w.grownBy w' (some r) → w'.heap.size = w.heap.size → (Instr.entry (.pointer (some ⟨r, 0, none⟩))).run P w' = .ok (.tuple #[.int .i64 x, f x e]) w' → wpList P ops Q rest (a.put o.dst (.tuple #[.bool true, .int .i64 x, f x e])) w') :
    wpList P ops Q (o :: rest) a w := by
  refine wpList_plain hg fun K' hK' => ?_
  unfold Oper.wp
  rcases h.next (int_keyed hk) o.type with ⟨h0, hl, hrun⟩ | ⟨key, v, kl, y, w', cnt', hkey, hlk, hv, hat, hrun, hrg, hlt, hgr, hsz, hen⟩
  · simp [execOp, hop, hit, hrun, Result.andThen]
    exact hK' _ _ (hDone h0 hl)
  · obtain ⟨x, rfl, rfl, hwx⟩ := Maps.keyOf_int_inv hk hkey
    have hy : y = (.held v, []) := by simpa [RV] using hv.symm
    subst hy
    have h1 := hat (.held (.bool true))
    have h2 := hat (.held (.bool false))
    rw [dat_atKey, get_encF] at h1 h2
    cases hq : get x L with
    | none => rw [hq] at h1 h2; simp at h1 h2; rw [← h1] at h2; simp at h2
    | some e =>
      rw [hq] at h1
      simp at h1
      subst h1
      simp [execOp, hop, hit, hrun, Result.andThen]
      exact hK' _ _ (hMore x e w' cnt' hwx hlk hq hrg hlt hgr hsz hen)
end

/-! ### A drawn region's steps, with the slot given: takes of reads, and of operations whose guard is false -/
section
variable {P : Program} {ops : Array Oper} {Q : Exit → Act → World → Prop} {md : Region.Mode} {S : World → Prop}
theorem held_yes {i : Nat} (d : Option Tmp) {oi : Oper} {v : Value} {fuel : Nat} {listed : Array Bool} {a : Act} {w : World} (hi : ops[i]? = some oi) (hd : oi.dst = d)
    (hs : Region.noSelect ops = true) (hf : Region.free md ops listed i = true) (hr : (Region.ready md ops listed).contains i = true)
    (hQ : ∀ c a w, Q (.panic c) (a.put d v) w → Q (.panic c) a w) (hg : Region.wanted oi (yielded ops a.tmps) = true)
    (hv : ∀ w, S w → (execOp a.eval oi).run P w = .ok (.value v) w) (hS : S w)
    (h : wpAnyH P md ops Q S fuel (listed.setIfInBounds i true) (a.put d v) w) : wpAnyH P md ops Q S (fuel + 1) listed a w := by
  subst hd
  exact wpAnyH_take hi hs hf hr hQ (Or.inl ⟨hg, hv⟩) hS h
theorem held_no {i : Nat} (d : Option Tmp) {oi : Oper} {fuel : Nat} {listed : Array Bool} {a : Act} {w : World} (hi : ops[i]? = some oi) (hd : oi.dst = d)
    (hs : Region.noSelect ops = true) (hf : Region.free md ops listed i = true) (hr : (Region.ready md ops listed).contains i = true)
    (hQ : ∀ c a w, Q (.panic c) (a.put d undef) w → Q (.panic c) a w) (hg : Region.wanted oi (yielded ops a.tmps) = false) (hS : S w)
    (h : wpAnyH P md ops Q S fuel (listed.setIfInBounds i true) (a.put d undef) w) : wpAnyH P md ops Q S (fuel + 1) listed a w := by
  subst hd
  exact wpAnyH_take hi hs hf hr hQ (Or.inr ⟨hg, rfl⟩) hS h
theorem wanted_t {ops : Array Oper} {tmps : Array Value} {o : Oper} {j d : Nat} (hg : o.guard = some (j, true)) (hd : ((ops[j]?).bind (·.dst)) = some d) (ht : tmps[d]? = some (.bool false)) : Region.wanted o (yielded ops tmps) = false := by
  unfold Region.wanted yielded
  simp [hg, hd, ht]
theorem wanted_f {ops : Array Oper} {tmps : Array Value} {o : Oper} {j d : Nat} (hg : o.guard = some (j, false)) (hd : ((ops[j]?).bind (·.dst)) = some d) (ht : tmps[d]? = some (.bool true)) : Region.wanted o (yielded ops tmps) = false := by
  unfold Region.wanted yielded
  simp [hg, hd, ht]
end
end Go.Proofs.YthkdmpalhdifbaaGreatDoor
