import Derived.Test.YtlfikhblmbidmaaGreatDoorStabP
import Derived.Test.YtlfikhblmbidmaaGreatDoorMrgH
import Derived.Laws.IdiomCopy
import Derived.Laws.Tables
import Derived.Deep.DeepMust
import Derived.Deep.RegionHeld3
import Derived.Deep.DeepCutAuto
import Derived.Deep.CutBlock
import Derived.Deep.LoopGhost
set_option linter.all false
namespace Go.Proofs.YtlfikhblmbidmaaGreatDoor
open Go.RowKit Go.Maps Go.Shelf Go.Sort
section
variable {α : Type} (enc : α → List Value) (k : Nat)
def flat (L : List α) : List Value := L.flatMap enc
variable {enc k}
theorem flat_length (hk : ∀ x, (enc x).length = k) (L : List α) : (flat enc L).length = L.length * k := by
 induction L with
 | nil => simp [flat]
 | cons x r ih => simp only [flat, List.flatMap_cons, List.length_append, List.length_cons] at ih ⊢; rw [ih, hk, Nat.add_mul]; omega
theorem flat_at (hk : ∀ x, (enc x).length = k) : ∀ (L : List α) (i : Nat) (p : α), L[i]? = some p → ∀ j, j < k → (flat enc L)[i * k + j]? = (enc p)[j]?
 | [], i, p, h, j, hj => by simp at h
 | x :: r, 0, p, h, j, hj => by
  simp at h
  subst h
  simp only [flat, List.flatMap_cons]
  rw [List.getElem?_append_left (by rw [hk]; omega)]
  simp
 | x :: r, i + 1, p, h, j, hj => by
  have ih := flat_at hk r i p (by simpa using h) j hj
  simp only [flat, List.flatMap_cons]
  rw [List.getElem?_append_right (by rw [hk, Nat.add_mul]; omega)]
  rw [show (i + 1) * k + j - (enc x).length = i * k + j by rw [hk, Nat.add_mul]; omega]
  exact ih
end
theorem size_setCells (b : Nat) : ∀ (vs : List Value) (o : Nat) (w : World), (w.setCells b o vs).heap.size = w.heap.size
 | [], _, _ => rfl
 | v :: r, o, w => by rw [World.setCells, size_setCells b r]; simp
theorem bdrew2 {w w' : World} (h : Below w.drew.heap.size w.drew w') : Below w.heap.size w w' := (Below.refl _ _).drew.trans (h.mono (by simp))
theorem bel_grown {w w' : World} (h : Below w.heap.size w w') : w.grownBy w' none := ⟨h.os, h.tape, h.output, h.size, fun i hi _ => h.block i hi⟩
structure Et where
 sl : Int
 r : Int
 d : Int
 v : ByteArray
abbrev etV (x : Et) : Value := .agg #[.int .i64 x.sl, .int .i64 x.r, .int .i64 x.d, .string x.v]
def encEt (x : Et) : List Value := [.int .i64 x.sl, .int .i64 x.r, .int .i64 x.d, .string x.v]
theorem step_str {P : Program} {w w1 : World} {ops : Array Oper} {o : Oper} {a : Act} {K : Act → World → Prop} {Q : Exit → Act → World → Prop} {E : Prop}
  (hgd : o.guard = none) (x y : Operand) (t : TypeId) (ho : o.op = .store t x y) {ad : Addr} {v : Value} (hx : a.eval x = .pointer (some ad)) (hy : a.eval y = v) (hrun : (storeVar t ad v).run P w = .ok () w1)
  (h : K (a.put o.dst undef) w1) : if Region.wanted o (yielded ops a.tmps) = true then Oper.wp P o a w K Q else E := by
 have hw : Region.wanted o (yielded ops a.tmps) = true := by simp [Region.wanted, hgd]
 rw [if_pos hw]
 unfold Oper.wp execOp
 simp only [ho, hx, hy, Instr.storeAt, Instr.sureAddr, Sem.run_bind, Sem.run_pure, Result.andThen_ok, hrun]
 exact h
theorem run_storeVar_at {P : Program} (w : World) (g o k : Nat) (ty : TypeId) (cs : List Value) (hi : (P.info? ty).map (·.size) = some k) (hk : cs.length = k) (hc : ∀ j, j < k → (w.cell? ⟨g, o + j, none⟩).isSome = true)
  (hf : ∀ j, j < k → w.frozen? ⟨g, o + j, none⟩ = false) (h1 : ∀ v ∈ cs, v.oneCell' = true) : (storeVar ty ⟨g, o, none⟩ (.agg cs.toArray)).run P w = .ok () (w.setCells g o cs) := by
 have := run_storeCells_cells (P := P) g o cs 0 w (fun j hj => by rw [Nat.add_zero]; exact hc j (by omega)) (fun j hj => by rw [Nat.add_zero]; exact hf j (by omega)) h1
 rw [Nat.add_zero] at this
 cases hq : P.info? ty with
 | none => simp [hq] at hi
 | some i =>
  have hs : cs.length = i.size := by simp [hq] at hi; omega
  simp [storeVar, sizeOf, typeInfo, hq, Value.cells, hs, this]
section
variable {α : Type} {enc : α → List Value} {k : Nat}
structure RowE (enc : α → List Value) (w : World) (g : Nat) (L : List α) : Prop where
 lt : g < w.heap.size
 cells : ∀ t u, (flat enc L)[t]? = some u → w.cell? ⟨g, t, none⟩ = some u
 free : ∀ t, w.frozen? ⟨g, t, none⟩ = false
theorem flat_set (hk : ∀ x, (enc x).length = k) (y : α) : ∀ (L : List α) (i : Nat), i < L.length → flat enc (L.set i y) = (flat enc L).take (i * k) ++ enc y ++ (flat enc L).drop (i * k + k)
 | x :: r, 0, _ => by
  have e : flat enc (x :: r) = enc x ++ flat enc r := rfl
  have e2 : flat enc ((x :: r).set 0 y) = enc y ++ flat enc r := rfl
  rw [e, e2, Nat.zero_mul, List.take_zero, List.nil_append, Nat.zero_add, List.drop_append_of_le_length (by rw [hk]; omega), List.drop_of_length_le (by rw [hk]; omega), List.nil_append]
 | x :: r, i + 1, h => by
  have ih := flat_set hk y r i (by simpa using h)
  have e : flat enc (x :: r) = enc x ++ flat enc r := rfl
  have e2 : flat enc ((x :: r).set (i + 1) y) = enc x ++ flat enc (r.set i y) := rfl
  have h1 : (i + 1) * k = (enc x).length + i * k := by rw [hk, Nat.add_mul]; omega
  rw [e, e2, ih, h1, List.take_length_add_append, Nat.add_assoc, List.drop_length_add_append]
  simp only [List.append_assoc]
namespace RowE
variable {w w' : World} {g : Nat} {L : List α}
theorem bel (h : RowE enc w g L) (hb : Below w.heap.size w w') : RowE enc w' g L :=
 ⟨Nat.lt_of_lt_of_le h.lt hb.size, fun t u hu => (World.cell?_of_block (hb.block g h.lt)).trans (h.cells t u hu), fun t => by rw [← h.free t]; simp only [World.frozen?, hb.block g h.lt]⟩
theorem fr {S : Nat → Prop} (h : RowE enc w g L) (hb : Fr S w w') (hs : ¬ S g) : RowE enc w' g L :=
 ⟨Nat.lt_of_lt_of_le h.lt hb.size, fun t u hu => (World.cell?_of_block (hb.block g h.lt hs)).trans (h.cells t u hu), fun t => by rw [← h.free t]; simp only [World.frozen?, hb.block g h.lt hs]⟩
theorem drew (h : RowE enc w g L) : RowE enc w.drew g L := ⟨h.lt, h.cells, h.free⟩
theorem elem (h : RowE enc w g L) (hk : ∀ x, (enc x).length = k) {i : Nat} {x : α} (hx : L[i]? = some x) {j : Nat} {v : Value} (hv : (enc x)[j]? = some v) : w.cell? ⟨g, i * k + j, none⟩ = some v := by
 have hj : j < k := by have := (List.getElem?_eq_some_iff.1 hv).1; rwa [hk] at this
 exact h.cells _ _ ((flat_at hk L i x hx j hj).trans hv)
theorem csome (h : RowE enc w g L) (hk : ∀ x, (enc x).length = k) {i : Nat} (hi : i < L.length) {j : Nat} (hj : j < k) : (w.cell? ⟨g, i * k + j, none⟩).isSome = true := by
 rw [h.elem hk (List.getElem?_eq_getElem hi) (j := j) (List.getElem?_eq_getElem (by rw [hk]; exact hj))]
 rfl
theorem store (h : RowE enc w g L) (hk : ∀ x, (enc x).length = k) {i : Nat} (hi : i < L.length) (y : α) : RowE enc (w.setCells g (i * k) (enc y)) g (L.set i y) := by
 have hsz : (w.setCells g (i * k) (enc y)).heap.size = w.heap.size := size_setCells g _ _ _
 refine ⟨by rw [hsz]; exact h.lt, fun t u hu => ?_, fun t => by rw [World.frozen?_setCells]; exact h.free t⟩
 have hlen := flat_length (enc := enc) hk L
 have hik : i * k + k ≤ L.length * k := by rw [← Nat.succ_mul]; exact Nat.mul_le_mul_right k hi
 rw [flat_set hk y L i hi] at hu
 have hl1 : ((flat enc L).take (i * k)).length = i * k := by rw [List.length_take, hlen]; omega
 by_cases h1 : t < i * k
 ·rw [List.append_assoc, List.getElem?_append_left (by rw [hl1]; exact h1), List.getElem?_take, if_pos h1] at hu
  rw [World.cell?_setCells_out g _ _ _ _ (fun _ _ => .inl (by simpa using h1))]
  exact h.cells t u hu
 ·by_cases h2 : t < i * k + k
  ·rw [List.append_assoc, List.getElem?_append_right (by rw [hl1]; omega), hl1, List.getElem?_append_left (by rw [hk]; omega)] at hu
   obtain ⟨hlt, hv⟩ := List.getElem?_eq_some_iff.1 hu
   have := World.cell?_setCells_in g (enc y) (i * k) w (fun j hj => h.csome hk hi (by rw [hk] at hj; exact hj)) (t - i * k) hlt
   rw [show i * k + (t - i * k) = t by omega, hv] at this
   exact this
  ·rw [List.getElem?_append_right (by rw [List.length_append, hl1, hk]; omega), List.length_append, hl1, hk, List.getElem?_drop] at hu
   rw [World.cell?_setCells_out g _ _ _ _ (fun _ _ => .inr (by rw [hk]; simp; omega))]
   rw [show i * k + k + (t - (i * k + k)) = t by omega] at hu
   exact h.cells t u hu
end RowE
theorem fr_setCellsK (g o : Nat) (vs : List Value) (w : World) : Fr (S1 g) w (w.setCells g o vs) := by
 induction vs generalizing o w with
 | nil => exact Fr.refl _ _
 | cons v r ih =>
  rw [World.setCells]
  exact ((Fr.refl (S1 g) w).setCell (p := ⟨g, o, none⟩) (.inl rfl) v).trans (ih _ _)
end
theorem evl (x : Et) : (encEt x).length = 4 := rfl
theorem ev1 (x : Et) : ∀ v ∈ encEt x, v.oneCell' = true := fun v hv => by
 simp [encEt] at hv
 rcases hv with rfl | rfl | rfl | rfl <;> rfl
theorem info_v4 : (Tryz.prog.info? 128).map (·.size) = some 4 := by kernel_rfl
theorem RowE.five {w : World} {g : Nat} {L : List Et} (h : RowE encEt w g L) {i : Nat} {x : Et} (hx : L[i]? = some x) : w.cell? ⟨g, i * 4, none⟩ = some (.int .i64 x.sl) ∧ w.cell? ⟨g, i * 4 + 1, none⟩ = some (.int .i64 x.r) ∧
  w.cell? ⟨g, i * 4 + 2, none⟩ = some (.int .i64 x.d) ∧ w.cell? ⟨g, i * 4 + 3, none⟩ = some (.string x.v) :=
 ⟨h.elem evl hx (j := 0) rfl, h.elem evl hx (j := 1) rfl, h.elem evl hx (j := 2) rfl, h.elem evl hx (j := 3) rfl⟩
theorem RowE.put {w : World} {g : Nat} {L : List Et} (h : RowE encEt w g L) {i : Nat} (hi : i < L.length) (y : Et) : (storeVar 128 ⟨g, i * 4, none⟩ (etV y)).run Tryz.prog w = .ok () (w.setCells g (i * 4) (encEt y)) :=
 run_storeVar_at w g (i * 4) 4 _ (encEt y) info_v4 rfl (fun j hj => h.csome evl hi hj) (fun j _ => h.free _) (ev1 y)
def exch {α : Type} (L : List α) (i j : Nat) (x y : α) : List α := (L.set i y).set j x
theorem exch_at {α : Type} {P Q S : List α} {x y : α} {i j : Nat} (hi : P.length = i) (hj : P.length + 1 + Q.length = j) : exch (P ++ x :: Q ++ y :: S) i j x y = P ++ y :: Q ++ x :: S := by
 subst hi hj
 unfold exch
 rw [show P ++ x :: Q ++ y :: S = P ++ (x :: (Q ++ y :: S)) by simp, List.set_append_right _ _ (Nat.le_refl _), Nat.sub_self, List.set_cons_zero, List.set_append_right _ _ (by omega),
  show P.length + 1 + Q.length - P.length = Q.length + 1 by omega, List.set_cons_succ, List.set_append_right _ _ (Nat.le_refl _), Nat.sub_self, List.set_cons_zero]
 simp
set_option maxRecDepth 100000 in
set_option maxHeartbeats 4000000 in
theorem swapRange_any (g cap N : Nat) (fv : Value) (P X Q Y S : List Et) (w : World) (h : RowE encEt w g (P ++ X ++ Q ++ Y ++ S)) (hxy : X.length = Y.length) (hN : N = (P ++ X ++ Q ++ Y ++ S).length) (hcap : N ≤ cap) (hm : cap ≤ maxLen) (a b n : Nat) (ha : a = P.length) (hb : b = P.length + X.length + Q.length) (hn : n = X.length) :
  Calls Tryz.prog 249 #[.slice (some ⟨g, 0, none⟩) N cap, .int .i64 (a : Int), .int .i64 (b : Int), .int .i64 (n : Int), fv] w fun e w' => e = .returned (.tuple #[]) ∧ RowE encEt w' g (P ++ Y ++ Q ++ X ++ S) ∧ Fr (S1 g) w w' := by
 have hml : cap ≤ 9223372036854775807 := by unfold maxLen at hm; omega
 have hlen : a + n ≤ b ∧ b + n ≤ N := by simp at hN; omega
 have H := Lib.hid h
 have HXY := Lib.hid hxy
 have HN := Lib.hid hN
 have HA := Lib.hid ha
 have HB := Lib.hid hb
 have HNX := Lib.hid hn
 clear h hxy hN ha hb hn hm
 go_enter Tryz.func249, Tryz.ntmps249
 go_wp2_with fail
 go_loopg [10] n (fun gh c wr => ∃ i : Nat, i ≤ n ∧ gh = n - i ∧ c = .int .i64 i ∧ RowE encEt wr g (P ++ (Y.take i ++ X.drop i) ++ Q ++ (X.take i ++ Y.drop i) ++ S) ∧ Fr (S1 g) w wr)
 case atStart => exact ⟨0, by omega, by omega, rfl, by simpa using H.out, Fr.refl _ _⟩
 case round =>
  obtain ⟨i, hi, rfl, rfl, hrow, hfr⟩ := hrel
  have R := Lib.hid hrow
  have F := Lib.hid hfr
  clear hrow hfr
  by_cases hlt : i < n
  case neg =>
   have e : i = n := by omega
   have R2 : Hid (RowE encEt wr g (P ++ Y ++ Q ++ X ++ S)) := by
    have h1 := R.out
    have e1 := HNX.out
    have e2 := HXY.out
    rw [List.take_of_length_le (show Y.length ≤ i by omega), List.take_of_length_le (show X.length ≤ i by omega), List.drop_of_length_le (show X.length ≤ i by omega), List.drop_of_length_le (show Y.length ≤ i by omega), List.append_nil, List.append_nil] at h1
    exact h1
   subst e
   go_wp2_with fail
   go_end0
   exact ⟨rfl, R2.out, F.out⟩
  case pos =>
  obtain ⟨x, hx⟩ : ∃ x, X[i]? = some x := ⟨_, List.getElem?_eq_getElem (by rw [← HNX.out]; exact hlt)⟩
  obtain ⟨y, hy⟩ : ∃ y, Y[i]? = some y := ⟨_, List.getElem?_eq_getElem (by rw [← HXY.out, ← HNX.out]; exact hlt)⟩
  have hxl := (List.getElem?_eq_some_iff.1 hx).1
  have hyl := (List.getElem?_eq_some_iff.1 hy).1
  have ex : X.drop i = x :: X.drop (i + 1) := by rw [List.drop_eq_getElem_cons hxl, (List.getElem?_eq_some_iff.1 hx).2]
  have ey : Y.drop i = y :: Y.drop (i + 1) := by rw [List.drop_eq_getElem_cons hyl, (List.getElem?_eq_some_iff.1 hy).2]
  have tx : X.take (i + 1) = X.take i ++ [x] := by rw [List.take_add_one, hx]; rfl
  have ty : Y.take (i + 1) = Y.take i ++ [y] := by rw [List.take_add_one, hy]; rfl
  obtain ⟨M, hM⟩ : ∃ M, M = P ++ (Y.take i ++ X.drop i) ++ Q ++ (X.take i ++ Y.drop i) ++ S := ⟨_, rfl⟩
  have hM2 : M = (P ++ Y.take i) ++ x :: (X.drop (i + 1) ++ Q ++ X.take i) ++ y :: (Y.drop (i + 1) ++ S) := by rw [hM, ex, ey]; simp
  have hl1 : (P ++ Y.take i).length = a + i := by rw [List.length_append, List.length_take, ← HA.out]; omega
  have hl2 : (P ++ Y.take i).length + 1 + (X.drop (i + 1) ++ Q ++ X.take i).length = b + i := by
   have e1 := HA.out
   have e2 := HB.out
   have e3 := HNX.out
   rw [hl1]
   simp only [List.length_append, List.length_drop, List.length_take]
   omega
  have hME : exch M (a + i) (b + i) x y = P ++ (Y.take (i + 1) ++ X.drop (i + 1)) ++ Q ++ (X.take (i + 1) ++ Y.drop (i + 1)) ++ S := by
   rw [hM2, exch_at hl1 hl2, tx, ty]
   simp
  have hMl : M.length = N := by
   have e1 := HXY.out
   rw [HN.out, hM]
   simp only [List.length_append, List.length_drop, List.length_take]
   omega
  have hMi : M[a + i]? = some x := by
   rw [hM2, List.append_assoc, List.getElem?_append_right (by omega), hl1, Nat.sub_self]; rfl
  have hMj : M[b + i]? = some y := by
   rw [hM2, List.getElem?_append_right (by rw [List.length_append, List.length_cons]; omega), List.length_append, List.length_cons]
   rw [show b + i - ((P ++ Y.take i).length + ((X.drop (i + 1) ++ Q ++ X.take i).length + 1)) = 0 by omega]; rfl
  have RM : RowE encEt wr g M := by rw [hM]; exact R.out
  have RD := RM.drew
  have hai : a + i < M.length := by omega
  have hbi : b + i < M.length := by omega
  have s1 := RD.put hai y
  have R1 := RD.store evl hai y
  have s2 := R1.put (i := b + i) (by rw [List.length_set]; exact hbi) x
  have R2 := R1.store evl (i := b + i) (by rw [List.length_set]; exact hbi) x
  have R3 : Hid (RowE encEt ((wr.drew.setCells g ((a + i) * 4) (encEt y)).setCells g ((b + i) * 4) (encEt x)) g (P ++ (Y.take (i + 1) ++ X.drop (i + 1)) ++ Q ++ (X.take (i + 1) ++ Y.drop (i + 1)) ++ S)) := by rw [Hid, ← hME]; exact R2
  have F3 : Hid (Fr (S1 g) w ((wr.drew.setCells g ((a + i) * 4) (encEt y)).setCells g ((b + i) * 4) (encEt x))) := (F.out.drew.trans (fr_setCellsK g _ _ _)).trans (fr_setCellsK g _ _ _)
  obtain ⟨p0, p1, p2, p3⟩ := RM.five hMi
  obtain ⟨q0, q1, q2, q3⟩ := RM.five hMj
  obtain ⟨W1, hW1⟩ : ∃ W1, W1 = wr.drew.setCells g ((a + i) * 4) (encEt y) := ⟨_, rfl⟩
  rw [← hW1] at s1 s2 R3 F3
  obtain ⟨W2, hW2⟩ : ∃ W2, W2 = W1.setCells g ((b + i) * 4) (encEt x) := ⟨_, rfl⟩
  rw [← hW2] at s2 R3 F3
  have S1' := Lib.hid s1
  have S2' := Lib.hid s2
  obtain ⟨I, hI⟩ : ∃ I, a + i = I := ⟨_, rfl⟩
  obtain ⟨J, hJ⟩ : ∃ J, b + i = J := ⟨_, rfl⟩
  have hIN : I < N := by omega
  have hJN : J < N := by omega
  have hwI : IntKind.i64.wrap ((a : Int) + (i : Int)) = (I : Int) := by rw [IntKind.wrap_i64]; omega
  have hwJ : IntKind.i64.wrap ((b : Int) + (i : Int)) = (J : Int) := by rw [IntKind.wrap_i64]; omega
  rw [hI] at S1' p0 p1 p2 p3
  rw [hJ] at S2' q0 q1 q2 q3
  clear hI hJ
  obtain ⟨xs, xr, xd, xv⟩ := x
  obtain ⟨ys, yr, yd, yv⟩ := y
  simp only at p0 p1 p2 p3 q0 q1 q2 q3
  have hn9 : n ≤ 9223372036854775807 := by omega
  clear hlen
  clear s1 s2 R1 R2 RD RM hW1 hW2 hMi hMj hME hM hM2 hl1 hl2 tx ty ex ey hxl hyl hx hy hMl hai hbi R F
  go_upto_region 3 with fail
  refine wp_region_held_drew (S := (fun W => True)) (by kernel_rfl) ?_ (fun hHeld => ?_)
  ·exact trivial
  try dsimp only at hHeld
  refine hY 0 (some 16) hHeld ?_
  refine hY 1 (some 17) hHeld ?_
  refine hY 2 (some 18) hHeld ?_
  refine hY 3 (some 19) hHeld ?_
  refine hY 4 (some 20) hHeld ?_
  refine hY 5 (some 21) hHeld ?_
  refine hY 6 (some 22) hHeld ?_
  refine hY 7 (some 23) hHeld ?_
  refine hY 8 (some 24) hHeld ?_
  refine hY 9 (some 25) hHeld ?_
  refine hY 10 (some 26) hHeld ?_
  refine hY 11 (some 27) hHeld ?_
  refine hY 12 (some 28) hHeld ?_
  refine hY 14 (some 30) hHeld ?_
  refine hY 15 (some 31) hHeld ?_
  refine hY 16 (some 32) hHeld ?_
  refine hY 17 (some 33) hHeld ?_
  refine hY 18 (some 34) hHeld ?_
  refine wpAnyH_ready (rs := [13, 19]) (by kernel_rfl) (by simp) ?_
  refine (AllReadyH.cons rfl (fun K' hK' => ?_) (AllReadyH.cons rfl (fun K' hK' => ?_) AllReadyH.nil))
  ·go_simp
   refine hK'.out _ _ ?_ (fun hHeld => ?_)
   ·trivial
   clear hK' K'
   try dsimp only at hHeld
   try simp only [Act.put, List.setIfInBounds_toArray, List.set_cons_zero, List.set_cons_succ]
   refine wpAnyH_ready (rs := [19]) (by kernel_rfl) (by simp) ?_
   refine (AllReadyH.cons rfl (fun K' hK' => ?_) AllReadyH.nil)
   go_simp
   refine hK'.out _ _ ?_ (fun hHeld => ?_)
   ·trivial
   clear hK' K'
   try dsimp only at hHeld
   try simp only [Act.put, List.setIfInBounds_toArray, List.set_cons_zero, List.set_cons_succ]
   refine hY 20 (some 36) hHeld ?_
   refine wpAnyH_ready (rs := [21]) (by kernel_rfl) (by simp) ?_
   refine (AllReadyH.cons rfl (fun K' hK' => ?_) AllReadyH.nil)
   (refine step_str rfl _ _ _ rfl rfl rfl S1'.out ?_)
   refine hK'.out _ _ ?_ (fun hHeld => ?_)
   ·trivial
   clear hK' K'
   try dsimp only at hHeld
   try simp only [Act.put, List.setIfInBounds_toArray, List.set_cons_zero, List.set_cons_succ]
   refine hY 22 (some 37) hHeld ?_
   refine wpAnyH_ready (rs := [23]) (by kernel_rfl) (by simp) ?_
   refine (AllReadyH.cons rfl (fun K' hK' => ?_) AllReadyH.nil)
   (refine step_str rfl _ _ _ rfl rfl rfl S2'.out ?_)
   refine hK'.out _ _ ?_ (fun hHeld => ?_)
   ·trivial
   clear hK' K'
   try dsimp only at hHeld
   try simp only [Act.put, List.setIfInBounds_toArray, List.set_cons_zero, List.set_cons_succ]
   refine wpAnyH_done (by kernel_rfl) ?_ _
   (go_wp2_with fail; go_roundg (n - (i + 1)); (case measure => omega); (case rel => exact ⟨i + 1, by omega, rfl, by go_num, R3.out, F3.out⟩))
  ·go_simp
   refine hK'.out _ _ ?_ (fun hHeld => ?_)
   ·trivial
   clear hK' K'
   try dsimp only at hHeld
   try simp only [Act.put, List.setIfInBounds_toArray, List.set_cons_zero, List.set_cons_succ]
   refine wpAnyH_ready (rs := [13]) (by kernel_rfl) (by simp) ?_
   refine (AllReadyH.cons rfl (fun K' hK' => ?_) AllReadyH.nil)
   go_simp
   refine hK'.out _ _ ?_ (fun hHeld => ?_)
   ·trivial
   clear hK' K'
   try dsimp only at hHeld
   try simp only [Act.put, List.setIfInBounds_toArray, List.set_cons_zero, List.set_cons_succ]
   refine hY 20 (some 36) hHeld ?_
   refine wpAnyH_ready (rs := [21]) (by kernel_rfl) (by simp) ?_
   refine (AllReadyH.cons rfl (fun K' hK' => ?_) AllReadyH.nil)
   (refine step_str rfl _ _ _ rfl rfl rfl S1'.out ?_)
   refine hK'.out _ _ ?_ (fun hHeld => ?_)
   ·trivial
   clear hK' K'
   try dsimp only at hHeld
   try simp only [Act.put, List.setIfInBounds_toArray, List.set_cons_zero, List.set_cons_succ]
   refine hY 22 (some 37) hHeld ?_
   refine wpAnyH_ready (rs := [23]) (by kernel_rfl) (by simp) ?_
   refine (AllReadyH.cons rfl (fun K' hK' => ?_) AllReadyH.nil)
   (refine step_str rfl _ _ _ rfl rfl rfl S2'.out ?_)
   refine hK'.out _ _ ?_ (fun hHeld => ?_)
   ·trivial
   clear hK' K'
   try dsimp only at hHeld
   try simp only [Act.put, List.setIfInBounds_toArray, List.set_cons_zero, List.set_cons_succ]
   refine wpAnyH_done (by kernel_rfl) ?_ _
   (go_wp2_with fail; go_roundg (n - (i + 1)); (case measure => omega); (case rel => exact ⟨i + 1, by omega, rfl, by go_num, R3.out, F3.out⟩))
end Go.Proofs.YtlfikhblmbidmaaGreatDoor