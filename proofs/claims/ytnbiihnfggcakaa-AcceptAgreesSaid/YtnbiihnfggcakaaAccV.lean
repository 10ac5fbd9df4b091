/- Turns that come in; the acceptors' pointers; the proposers' table in memory. -/
import Derived.Test.YtnbiihnfggcakaaAccO
import Derived.Laws.BytesArg
set_option linter.unusedVariables false
set_option linter.unusedSimpArgs false
namespace Go.Proofs.Ytnbiihnfggcakaa
open Go.RowKit Go.Maps Go.Shelf Go.ChangeShapes Go.WideShapes Go.Deep

theorem u8_nat {x : Int} (h : (Lit.int .u8 x).wf = true) : ∃ k : Nat, k < 256 ∧ x = (k : Int) := by
  simp [Lit.wf, IntKind.min, IntKind.max, IntKind.signed, IntKind.bits] at h
  exact ⟨x.toNat, by omega, by omega⟩

/-- A turn: the ballot's index, the node, whether it proposes. -/
abbrev Trn := Nat × Nat × Bool
def okTrn (s : Trn) : Prop := s.1 < 256 ∧ s.2.1 < 256
abbrev trnCells (s : Trn) : List Value := [.int .u8 (s.1 : Int), .int .u8 (s.2.1 : Int), .bool s.2.2]
/-- The value v is the slice of the turns L. -/
def TurnsIn (w : World) (v : Value) (L : List Trn) : Prop :=
  ∃ A cap, v = .slice A L.length cap ∧ L.length ≤ cap ∧ cap ≤ maxLen ∧ (∀ s ∈ L, okTrn s) ∧
    (0 < L.length → ∃ b off, A = some ⟨b, off, none⟩ ∧ b < w.heap.size ∧ ∀ i s, L[i]? = some s →
      w.cell? ⟨b, off + i * 3, none⟩ = some (.int .u8 (s.1 : Int)) ∧ w.cell? ⟨b, off + i * 3 + 1, none⟩ = some (.int .u8 (s.2.1 : Int)) ∧ w.cell? ⟨b, off + i * 3 + 2, none⟩ = some (.bool s.2.2))

section
variable {H : Type} {enc : TypeId × Value → H} {w : World} {base n : Nat} {spare : Nat → Bool} {held : Bool} {cs : List Value} {x : DataW H × List MemPlace}
set_option maxRecDepth 100000 in
theorem trn_open (ht : DataW.trod enc Try.prog w base spare held n 72 cs = some x) : ∃ s : Trn, cs = trnCells s ∧ okTrn s := by
  obtain ⟨ys, k, _, _, hlen, hyl, hf⟩ := DataW.trod_struct Try.underlying72 ht
  rw [show Try.prog.cellsOf 72 = 3 by kernel_rfl] at hlen
  have hyl : ys.length = 3 := hyl
  match cs, hlen with
  | [c0, c1, c2], _ =>
    match ys, hyl with
    | [y0, y1, y2], _ =>
      have h0 : DataW.trod enc Try.prog w base spare held k 5 [c0] = some y0 := hf 0 _ rfl
      have h1 : DataW.trod enc Try.prog w base spare held k 5 [c1] = some y1 := hf 1 _ rfl
      have h2 : DataW.trod enc Try.prog w base spare held k 4 [c2] = some y2 := hf 2 _ rfl
      obtain ⟨z0, e0, _, w0⟩ := DataW.trod_int Try.underlying5 h0
      obtain ⟨z1, e1, _, w1⟩ := DataW.trod_int Try.underlying5 h1
      obtain ⟨z2, e2, _⟩ := DataW.trod_bool Try.underlying4 h2
      cases e0
      cases e1
      cases e2
      obtain ⟨k0, l0, rfl⟩ := u8_nat w0
      obtain ⟨k1, l1, rfl⟩ := u8_nat w1
      exact ⟨(k0, k1, z2), rfl, l0, l1⟩
end

theorem TurnsIn.of_trod {H : Type} {enc : TypeId × Value → H} {w : World} {base : Nat} {spare : Nat → Bool} {held : Bool} {a0 : Option Addr} {len0 cap0 : Nat} {d : DataW H} {p : List MemPlace}
    (h : DataW.Trod enc Try.prog w base spare held 66 (.slice a0 len0 cap0) d p) : ∃ L, TurnsIn w (.slice a0 len0 cap0) L := by
  obtain ⟨fuel, hf⟩ := h
  rcases open_slice Try.underlying66 hf with ⟨hcs, _⟩ | ⟨a, len, cap, m, n, D, Pl, hcs, hb, hl, hm, hmm, _, hi⟩
  · simp [Value.cells] at hcs
    obtain ⟨rfl, rfl, rfl⟩ := hcs
    exact ⟨[], none, 0, rfl, Nat.le_refl _, Nat.zero_le _, fun s hs => by simp at hs, fun h => absurd h (by simp)⟩
  · simp [Value.cells] at hcs
    obtain ⟨rfl, rfl, rfl⟩ := hcs
    have hlm : len0 ≤ m := by rw [hmm]; split <;> omega
    have hall : ∀ i, i < len0 → ∃ s : Trn, okTrn s ∧ ∀ j u, (trnCells s)[j]? = some u → w.cell? (a.add (i * 3 + j)) = some u := by
      intro i hi'
      obtain ⟨cs, hc, ht⟩ := hi i (by omega)
      rw [show Try.prog.cellsOf 72 = 3 by kernel_rfl] at hc
      obtain ⟨s, rfl, hs⟩ := trn_open ht
      obtain ⟨_, hl5, hcell⟩ := World.cells?_some hc
      refine ⟨s, hs, fun j u hu => ?_⟩
      have hj : j < 3 := (List.getElem?_eq_some_iff.1 hu).1
      rw [← add_of_add, hcell j hj]
      exact hu
    obtain ⟨f, hf1⟩ : ∃ f : Nat → Trn, ∀ i, i < len0 → okTrn (f i) ∧ ∀ j u, (trnCells (f i))[j]? = some u → w.cell? (a.add (i * 3 + j)) = some u :=
      ⟨fun i => if h : i < len0 then Classical.choose (hall i h) else default, fun i hi => by simp only [dif_pos hi]; exact Classical.choose_spec (hall i hi)⟩
    have hlen : ((List.range len0).map f).length = len0 := by simp
    refine ⟨(List.range len0).map f, some a, cap0, by rw [hlen], by rw [hlen]; exact hl, hm, fun s hs => ?_, fun h0 => ?_⟩
    · simp only [List.mem_map, List.mem_range] at hs
      obtain ⟨i, hi', rfl⟩ := hs
      exact (hf1 i hi').1
    · rw [hlen] at h0
      obtain ⟨b, off, spot⟩ := a
      have h1 := (hf1 0 h0).2 0 _ rfl
      have hspot : spot = none := by simpa [Addr.add] using World.cell?_spot h1
      subst hspot
      obtain ⟨o, ho, _⟩ := cells_of_cell h1
      refine ⟨b, off, rfl, ?_, fun i s hx => ?_⟩
      · simpa [block_of_add] using (Array.getElem?_eq_some_iff.1 ho).1
      · have hi' : i < len0 := by have := (List.getElem?_eq_some_iff.1 hx).1; omega
        have e : f i = s := by
          simp only [List.getElem?_map, List.getElem?_range hi', Option.map_some] at hx
          exact Option.some.inj hx
        subst e
        have q := (hf1 i hi').2
        have q0 := q 0 _ rfl
        have q1 := q 1 _ rfl
        have q2 := q 2 _ rfl
        rw [add_flat] at q0 q1 q2
        exact ⟨q0, q1, q2⟩

theorem wq1 (k : Nat) (h : k < 12) : IntKind.i64.wrap (1 + IntKind.i64.wrap (k : Int)) = 1 + (k : Int) / ((1 : Nat) : Int) := by rw [IntKind.wrap_i64, IntKind.wrap_i64]; omega
theorem wq2 (k : Nat) (h : k < 12) : IntKind.i64.wrap (1 + IntKind.i64.wrap ((k : Int) / 2)) = 1 + (k : Int) / ((2 : Nat) : Int) := by rw [IntKind.wrap_i64, IntKind.wrap_i64]; omega
theorem wq3 (k : Nat) (h : k < 12) : IntKind.i64.wrap (1 + IntKind.i64.wrap ((k : Int) / 3)) = 1 + (k : Int) / ((3 : Nat) : Int) := by rw [IntKind.wrap_i64, IntKind.wrap_i64]; omega
theorem wq4 (k : Nat) (h : k < 12) : IntKind.i64.wrap (1 + IntKind.i64.wrap ((k : Int) / 4)) = 1 + (k : Int) / ((4 : Nat) : Int) := by rw [IntKind.wrap_i64, IntKind.wrap_i64]; omega
theorem wq5 (k : Nat) (h : k < 12) : IntKind.i64.wrap (1 + IntKind.i64.wrap ((k : Int) / 5)) = 1 + (k : Int) / ((5 : Nat) : Int) := by rw [IntKind.wrap_i64, IntKind.wrap_i64]; omega
theorem wr1 (k : Nat) : (0 : Int) = (k : Int) % ((1 : Nat) : Int) := by omega
theorem wr2 (k : Nat) : (k : Int).tmod 2 = (k : Int) % ((2 : Nat) : Int) := Int.tmod_eq_emod_of_nonneg (by omega)
theorem wr3 (k : Nat) : (k : Int).tmod 3 = (k : Int) % ((3 : Nat) : Int) := Int.tmod_eq_emod_of_nonneg (by omega)
theorem wr4 (k : Nat) : (k : Int).tmod 4 = (k : Int) % ((4 : Nat) : Int) := Int.tmod_eq_emod_of_nonneg (by omega)
theorem wr5 (k : Nat) : (k : Int).tmod 5 = (k : Int) % ((5 : Nat) : Int) := Int.tmod_eq_emod_of_nonneg (by omega)
theorem tmod_of (y n a : Nat) (h : (y : Int) % (n : Int) = (a : Int)) : (y : Int).tmod (n : Int) = (a : Int) := by rw [Int.tmod_eq_emod_of_nonneg (by omega)]; exact h

/-! ### The acceptors -/
theorem info_acc : (Try.prog.info? 25).map (fun i => (i.zero, i.size, i.bytes)) = some (some (.pointer none), 1, 8) := by kernel_rfl
abbrev PM := Nat × Nat
abbrev ptrV (x : PM) : Value := .pointer (some ⟨x.1, 0, none⟩)
/-- The slice v holds the acceptors N (block, map), whose states are A. -/
structure Nodes (w : World) (B : Nat) (v : Value) (N : List PM) (A : List ASt) : Prop where
  row : w.ownsRow B 25 1 v N.length (N.map ptrV)
  len : N.length = A.length
  acc : ∀ (a : Nat) (x : PM) (s : ASt), N[a]? = some x → A[a]? = some s → AS w x.1 x.2 s
  apart : ∀ (a b : Nat) (x y : PM), N[a]? = some x → N[b]? = some y → a ≠ b → x.1 ≠ y.1 ∧ x.2 ≠ y.2
  up : ∀ x ∈ N, B ≤ x.1 ∧ B ≤ x.2
namespace Nodes
variable {w w' : World} {B : Nat} {v : Value} {N : List PM} {A : List ASt}
theorem below (h : Nodes w B v N A) (k : Below w.heap.size w w') : Nodes w' B v N A :=
  ⟨row_fr h.row (Fr.of_below k : Fr S0 w w') (fun _ _ h => h), h.len, fun a x s h1 h2 => (h.acc a x s h1 h2).below k, h.apart, h.up⟩
theorem drew (h : Nodes w B v N A) : Nodes w.drew B v N A := h.below ((Below.refl _ _).drew)
theorem step (h : Nodes w B v N A) {a : Nat} {x : PM} {s s' : ASt} (hx : N[a]? = some x) (hs : A[a]? = some s) (hs' : AS w' x.1 x.2 s') (k : Fr (S2 x.1 x.2) w w') : Nodes w' B v N (A.set a s') := by
  have h0 := h.acc a x s hx hs
  refine ⟨row_fr h.row k fun g hg e => ?_, by simpa using h.len, fun b y u hy hu => ?_, h.apart, h.up⟩
  · rcases e with e | e
    · exact row_ne_blk h.row h0.at_.blk (by decide) g hg e
    · obtain ⟨es, c, hb⟩ := h0.at_.map.block
      exact row_ne_map h.row hb g hg e
  · rw [List.getElem?_set] at hu
    by_cases hab : a = b
    · subst hab
      rw [hx] at hy
      cases hy
      rw [if_pos rfl] at hu
      have hl := (List.getElem?_eq_some_iff.1 hs).1
      simp [hl] at hu
      subst hu
      exact hs'
    · rw [if_neg hab] at hu
      have h1 := h.acc b y u hy hu
      obtain ⟨p1, p2⟩ := h.apart a b x y hx hy hab
      refine h1.fr k (fun e => ?_) (fun e => ?_)
      · rcases e with e | e
        · exact p1 e.symm
        · obtain ⟨es, c, hb⟩ := h0.at_.map.block
          exact h1.at_.blk.ne_map hb e
      · rcases e with e | e
        · obtain ⟨es, c, hb⟩ := h1.at_.map.block
          exact h0.at_.blk.ne_map hb e.symm
        · exact p2 e.symm
theorem fr {S : Nat → Prop} (h : Nodes w B v N A) (k : Fr S w w') (hr : ∀ g, v.ownBlock = some g → ¬ S g) (hS : ∀ x ∈ N, ¬ S x.1 ∧ ¬ S x.2) : Nodes w' B v N A :=
  ⟨row_fr h.row k hr, h.len, fun a x s h1 h2 => (h.acc a x s h1 h2).fr k (hS x (List.mem_of_getElem? h1)).1 (hS x (List.mem_of_getElem? h1)).2, h.apart, h.up⟩
theorem nil (w : World) (B : Nat) : Nodes w B (.slice none 0 0) [] [] := ⟨World.ownsRow_nil _ _ _ _, rfl, fun a x s h => by simp at h, fun a b x y h => by simp at h, fun x h => by simp at h⟩
theorem push {w1 w4 : World} {o : Obj} {p m : Nat} {s : ASt} {v' : Value} (h : Nodes w B v N A) (hB : B ≤ w.heap.size) (b1 : Below w.heap.size w w1) (t : AS w1 p m s) (hp : w.heap.size ≤ p) (hm : w.heap.size ≤ m)
    (hown : w4.ownsRow B 25 1 v' (N.length + 1) (N.map ptrV ++ [ptrV (p, m)])) (hg : (w1.alloc o).grownBy w4 v.ownBlock) : Nodes w4 B v' (N ++ [(p, m)]) (A ++ [s]) := by
  have k : Fr (rowS v) (w1.alloc o) w4 := Fr.of_grown hg fun i e => e
  have h1 := (h.below b1).below (box_below w1 o)
  have t1 := t.below (box_below w1 o)
  have hkeep : ∀ x s, AS (w1.alloc o) x.1 x.2 s → AS w4 (x : PM).1 x.2 s := fun x s hx => by
    refine hx.fr k (fun e => ?_) (fun e => ?_)
    · exact row_ne_blk h1.row hx.at_.blk (by decide) _ e rfl
    · obtain ⟨es, c, hb⟩ := hx.at_.map.block
      exact row_ne_map h1.row hb _ e rfl
  have hold : ∀ (a : Nat) (x : PM), N[a]? = some x → x.1 < w.heap.size ∧ x.2 < w.heap.size := fun a x hx => by
    have ha := (List.getElem?_eq_some_iff.1 hx).1
    obtain ⟨s0, hs0⟩ : ∃ s0, A[a]? = some s0 := ⟨_, List.getElem?_eq_getElem (by have := h.len; omega)⟩
    exact (h.acc a x s0 hx hs0).lt
  have hN := h.len
  refine ⟨?_, by simp [hN], fun a x u hx hu => ?_, fun a b x y hx hy hab => ?_, fun x hx => ?_⟩
  · rw [List.length_append, List.map_append]
    exact hown
  · by_cases ha : a < N.length
    · rw [List.getElem?_append_left ha] at hx
      rw [List.getElem?_append_left (by omega)] at hu
      exact hkeep x u (h1.acc a x u hx hu)
    · rw [List.getElem?_append_right (by omega)] at hx hu
      have e0 : a - N.length = 0 := by
        have := (List.getElem?_eq_some_iff.1 hx).1
        simp at this
        omega
      rw [e0] at hx
      rw [← hN, e0] at hu
      simp at hx hu
      subst hx hu
      exact hkeep (p, m) s t1
  · have hc : ∀ (c : Nat) (z : PM), (N ++ [(p, m)])[c]? = some z → (c < N.length ∧ N[c]? = some z) ∨ (c = N.length ∧ z = (p, m)) := fun c z hz => by
      by_cases hc : c < N.length
      · rw [List.getElem?_append_left hc] at hz; exact .inl ⟨hc, hz⟩
      · rw [List.getElem?_append_right (by omega)] at hz
        have := (List.getElem?_eq_some_iff.1 hz).1
        simp at this
        have e0 : c - N.length = 0 := by omega
        rw [e0] at hz
        simp at hz
        exact .inr ⟨by omega, hz.symm⟩
    rcases hc a x hx with ⟨_, ha⟩ | ⟨ha, rfl⟩
    · rcases hc b y hy with ⟨_, hb⟩ | ⟨hb, rfl⟩
      · exact h.apart a b x y ha hb hab
      · have := hold a x ha; simp only; omega
    · rcases hc b y hy with ⟨_, hb⟩ | ⟨hb, rfl⟩
      · have := hold b y hb; simp only; omega
      · omega
  · rcases List.mem_append.1 hx with hx | hx
    · exact h.up x hx
    · simp at hx; subst hx; simp only; omega
/-- What node a is. -/
theorem at_ (h : Nodes w B v N A) {a : Nat} (ha : a < A.length) : ∃ x s, N[a]? = some x ∧ A[a]? = some s ∧ AS w x.1 x.2 s ∧ B ≤ x.1 ∧ B ≤ x.2 ∧
    ∃ g cap, v = .slice (some ⟨g, 0, none⟩) A.length cap ∧ A.length ≤ cap ∧ g < w.heap.size ∧ w.cell? ⟨g, a, none⟩ = some (ptrV x) := by
  have hN := h.len
  obtain ⟨x, hx⟩ : ∃ x, N[a]? = some x := ⟨_, List.getElem?_eq_getElem (by omega)⟩
  obtain ⟨s, hs⟩ : ∃ s, A[a]? = some s := ⟨_, List.getElem?_eq_getElem ha⟩
  obtain ⟨h1, h2⟩ := h.up x (List.mem_of_getElem? hx)
  refine ⟨x, s, hx, hs, h.acc a x s hx hs, h1, h2, ?_⟩
  rcases row_view2 h.row with ⟨_, h0, _⟩ | ⟨g, cap, hv, hle, _, _, hg, _, hc⟩
  · omega
  · exact ⟨g, cap, by rw [hv, hN], by omega, hg, hc a _ (by rw [List.getElem?_map, hx]; rfl)⟩
end Nodes

/-! ### The proposers' table -/
abbrev triCells (t : Tri) : List Value := [.int .u64 (t.told : Int), .int .i64 t.bs, .int .i64 t.br, .int .i64 t.bd, .string t.bv, .int .u64 (t.votes : Int)]
def cellsT (T : List Tri) : List Value := T.flatMap triCells
theorem cellsT_at : ∀ (T : List Tri) (k : Nat) (t : Tri), T[k]? = some t → ∀ j u, (triCells t)[j]? = some u → (cellsT T)[k * 6 + j]? = some u
  | [], k, t, h, j, u, hu => by simp at h
  | x :: r, 0, t, h, j, u, hu => by
    simp at h
    subst h
    have hj : j < 6 := (List.getElem?_eq_some_iff.1 hu).1
    simp only [cellsT, List.flatMap_cons, Nat.zero_mul, Nat.zero_add]
    rw [List.getElem?_append_left (by simpa using hj)]
    exact hu
  | x :: r, k + 1, t, h, j, u, hu => by
    simp only [List.getElem?_cons_succ] at h
    have ih := cellsT_at r k t h j u hu
    simp only [cellsT, List.flatMap_cons]
    rw [List.getElem?_append_right (by simp; omega)]
    simp only [List.length_cons, List.length_nil]
    rw [show (k + 1) * 6 + j - 6 = k * 6 + j by omega]
    exact ih
theorem cellsT_set : ∀ (T : List Tri) (k : Nat) (t t' : Tri), T[k]? = some t → ∀ j u, j < 6 → triCells t' = (triCells t).set j u → (cellsT T).set (k * 6 + j) u = cellsT (T.set k t')
  | [], k, t, t', h, j, u, hj, e => by simp at h
  | x :: r, 0, t, t', h, j, u, hj, e => by
    simp at h
    subst h
    simp only [cellsT, List.flatMap_cons, Nat.zero_mul, Nat.zero_add, List.set_cons_zero]
    rw [List.set_append_left _ _ (by simpa using hj), e]
  | x :: r, k + 1, t, t', h, j, u, hj, e => by
    simp only [List.getElem?_cons_succ] at h
    have ih := cellsT_set r k t t' h j u hj e
    simp only [cellsT, List.flatMap_cons, List.set_cons_succ]
    rw [List.set_append_right _ _ (by simp; omega)]
    simp only [List.length_cons, List.length_nil]
    rw [show (k + 1) * 6 + j - 6 = k * 6 + j by omega]
    exact congrArg _ ih
/-- The block tb is the table T. -/
def TB (w : World) (tb : Nat) (T : List Tri) : Prop := Blk w tb 70 (cellsT T).toArray
namespace TB
variable {w w' : World} {tb : Nat} {T : List Tri}
theorem cell (h : TB w tb T) {k : Nat} {t : Tri} (ht : T[k]? = some t) (j : Nat) (u : Value) (hu : (triCells t)[j]? = some u) : w.cell? ⟨tb, k * 6 + j, none⟩ = some u :=
  Blk.cell h (by simpa using cellsT_at T k t ht j u hu)
theorem below (h : TB w tb T) (k : Below w.heap.size w w') : TB w' tb T := Blk.bel h k
theorem fr {S : Nat → Prop} (h : TB w tb T) (k : Fr S w w') (hs : ¬ S tb) : TB w' tb T := Blk.fr h k hs
theorem set (h : TB w tb T) {k : Nat} {t t' : Tri} (ht : T[k]? = some t) (j : Nat) (u : Value) (hj : j < 6) (e : triCells t' = (triCells t).set j u) : TB (w.setCell ⟨tb, k * 6 + j, none⟩ u) tb (T.set k t') := by
  have := Blk.set h (k * 6 + j) u
  rw [List.setIfInBounds_toArray, cellsT_set T k t t' ht j u hj e] at this
  exact this
theorem frozen (h : TB w tb T) (i : Nat) : w.frozen? ⟨tb, i, none⟩ = false := Blk.frozen h i
theorem lt (h : TB w tb T) : tb < w.heap.size := Blk.lt h
theorem drew (h : TB w tb T) : TB w.drew tb T := h
end TB
theorem frT (w : World) (tb j : Nat) (u : Value) : Fr (S1 tb) w (w.setCell ⟨tb, j, none⟩ u) := (Fr.refl (S1 tb) w).setCell (p := ⟨tb, j, none⟩) (.inl (show S1 tb tb from rfl)) u
theorem Nodes.tset {w : World} {B tb : Nat} {v : Value} {N : List PM} {A : List ASt} {T : List Tri} (h : Nodes w B v N A) (hT : TB w tb T) (j : Nat) (u : Value) : Nodes (w.setCell ⟨tb, j, none⟩ u) B v N A := by
  refine h.fr (frT w tb j u) (fun g hg e => row_ne_blk h.row hT (by decide) g hg e) fun x hx => ?_
  obtain ⟨a, ha⟩ := List.getElem?_of_mem hx
  have hl := (List.getElem?_eq_some_iff.1 ha).1
  obtain ⟨s, hs⟩ : ∃ s, A[a]? = some s := ⟨_, List.getElem?_eq_getElem (by have := h.len; omega)⟩
  have h1 := h.acc a x s ha hs
  refine ⟨fun e => h1.at_.blk.ne_type hT (by decide) e, fun e => ?_⟩
  obtain ⟨es, c, hb⟩ := h1.at_.map.block
  exact Blk.ne_map hT hb e.symm
theorem EntRow.tset {w : World} {lo tb : Nat} {v : Value} {L : EL} {T : List Tri} (h : EntRow w lo v L) (hT : TB w tb T) (j : Nat) (u : Value) : EntRow (w.setCell ⟨tb, j, none⟩ u) lo v L :=
  row_fr h (frT w tb j u) fun g hg e => row_ne_blk h hT (by decide) g hg e
theorem bel_tset {w W : World} {B tb : Nat} (h : Below B w W) (hB : B ≤ tb) (hs : B ≤ w.heap.size) (j : Nat) (u : Value) : Below B w (W.setCell ⟨tb, j, none⟩ u) :=
  h.trans ((frT W tb j u).below (Nat.le_trans hs h.size) (fun i e => by have e : i = tb := e; omega))
theorem set_self {α : Type} {A : List α} {a : Nat} {s : α} (h : A[a]? = some s) : A.set a s = A := by
  refine List.ext_getElem? fun i => ?_
  rw [List.getElem?_set]
  by_cases hi : a = i
  · subst hi
    rw [if_pos rfl, h]
    simp [(List.getElem?_eq_some_iff.1 h).1]
  · rw [if_neg hi]
theorem bitor_val0 : ∀ t : Nat, t < 32 → ∀ a : Nat, a < 5 → bits BinOp.or IntKind.u64 (t : Int) (IntKind.u64.wrap ((2 : Int) ^ a)) = ((t ||| 2 ^ a : Nat) : Int) := by decide +kernel
theorem bitor_val {n t a : Nat} (hn : 1 ≤ n ∧ n ≤ 5) (ht : t < 2 ^ n) (ha : a < n) : bits BinOp.or IntKind.u64 (t : Int) (IntKind.u64.wrap ((2 : Int) ^ a)) = ((t ||| 2 ^ a : Nat) : Int) :=
  bitor_val0 t (Nat.lt_of_lt_of_le ht (Nat.le_trans (Nat.pow_le_pow_right (by decide) hn.2) (by decide))) a (by omega)
/-- The best one is told anew. -/
theorem best_set {w w0 : World} {B tb k : Nat} {v : Value} {N : List PM} {A : List ASt} {T : List Tri} {told : Nat} {bs br bd : Int} {bv : ByteArray} {votes : Nat} (h : TB w tb T) (ht : T[k]? = some ⟨told, bs, br, bd, bv, votes⟩) (hN : Nodes w B v N A) (hB : Below w0.heap.size w0 w) (hb : w0.heap.size ≤ tb)
    (zs f1 f2 : Int) (f3 : ByteArray) :
    let w' := (((w.setCell ⟨tb, k * 6 + 1, none⟩ (.int .i64 zs)).setCell ⟨tb, k * 6 + 1 + 1, none⟩ (.int .i64 f1)).setCell ⟨tb, k * 6 + 1 + 2, none⟩ (.int .i64 f2)).setCell ⟨tb, k * 6 + 1 + 3, none⟩ (.string f3)
    TB w' tb (T.set k ⟨told, zs, f1, f2, f3, votes⟩) ∧ Nodes w' B v N A ∧ Below w0.heap.size w0 w' := by
  have hk : k < T.length := (List.getElem?_eq_some_iff.1 ht).1
  have hat : ∀ t : Tri, (T.set k t)[k]? = some t := fun t => by rw [List.getElem?_set]; simp [hk]
  have h1 := h.set (t' := ⟨told, zs, br, bd, bv, votes⟩) ht 1 (.int .i64 zs) (by decide) rfl
  have h2 := h1.set (t' := ⟨told, zs, f1, bd, bv, votes⟩) (hat _) 2 (.int .i64 f1) (by decide) rfl
  rw [List.set_set] at h2
  have h3 := h2.set (t' := ⟨told, zs, f1, f2, bv, votes⟩) (hat _) 3 (.int .i64 f2) (by decide) rfl
  rw [List.set_set] at h3
  have h4 := h3.set (t' := ⟨told, zs, f1, f2, f3, votes⟩) (hat _) 4 (.string f3) (by decide) rfl
  rw [List.set_set] at h4
  exact ⟨h4, (((hN.tset h _ _).tset h1 _ _).tset h2 _ _).tset h3 _ _, bel_tset (bel_tset (bel_tset (bel_tset hB hb (Nat.le_refl _) _ _) hb (Nat.le_refl _) _ _) hb (Nat.le_refl _) _ _) hb (Nat.le_refl _) _ _⟩
theorem strO : ∀ k : Nat, k < 12 → strOfNums [97 + (k : Int)] = ownV k := by decide +kernel
theorem conv1 (k : Nat) (w : World) (hk : k < 12) : (convert 46 9 (.slice (some ⟨w.heap.size, 0, none⟩) 1 1)).run Try.prog (w.alloc (.cells #[.int .u8 (97 + (k : Int))] 5)) = .ok (.string (ownV k)) (w.alloc (.cells #[.int .u8 (97 + (k : Int))] 5)) := by
  rw [← strO k hk]
  refine run_convert_bytes_arg _ _ _ Try.underlying46 Try.underlying5 w.heap.size 0 1 1 [97 + (k : Int)] (by simp) (fun i hi => ?_) _ Try.underlying9
  have : i = 0 := by omega
  subst this
  exact (Blk.new w 5 #[.int .u8 (97 + (k : Int))]).cell (i := 0) rfl
theorem noEmpty {C : ByteArray} (h : C ≠ ⟨#[]⟩) : C.toList.isEmpty = false := by
  rw [Bool.eq_false_iff]
  intro h1
  refine h (toList_inj ?_)
  rw [List.isEmpty_iff.1 h1, ByteArray.toList_eq]
end Go.Proofs.Ytnbiihnfggcakaa
