/- Contracts of First (elect's and the reference's) and of Apart. -/
import Derived.Test.YtklfbngmakkefaaElectG
set_option linter.unusedVariables false
set_option linter.unusedSimpArgs false
namespace Go.Proofs.Ytklfbngmakkefaa
open Go.RowKit Go.Shelf
attribute [local go_sem] Oper.semAt_some

theorem grown_of_below {a w : World} (h : Below a.heap.size a w) (row : Option Nat) : a.grownBy w row := ⟨h.os, h.tape, h.output, h.size, fun i hi _ => h.block i hi⟩
theorem keeps_of_below {a w : World} (h : Below a.heap.size a w) : KeepsOthers a w := KeepsOthers.of_grownBy (grown_of_below h none) (fun j o e => by cases e)

theorem below_drewN' {B : Nat} {a w : World} (h : Below B a w) (n : Nat) : Below B a (w.drewN n) := ⟨h.os, h.tape, h.output, h.size, h.block⟩
theorem ret_ints3 {a b c d x y : Int} (h : a = b) (h2 : c = d) (h3 : x = y) : Ending.returned (.tuple #[.int .i64 a, .int .i64 c, .int .i64 x]) = .returned (.tuple #[.int .i64 b, .int .i64 d, .int .i64 y]) := by rw [h, h2, h3]

def firstV (n : Int) : Int := if okN n then 6 else 0

theorem waitV00 {n : Int} (h1 : 1 ≤ n) (h2 : n ≤ 7) : okW 0 0 n := ⟨h1, h2, by omega, by omega, by omega⟩

set_option maxRecDepth 100000 in
set_option maxHeartbeats 2000000 in
theorem first_yes (n : Int) (w : World) (h1 : 1 ≤ n) (h2 : n ≤ 7) :
    Calls Try.prog 20 #[.int .i64 n] w fun e w' => e = .returned (.tuple #[.int .i64 0, .int .i64 6, .int .i64 0]) ∧ Below w.heap.size w w' := by
  have hok := waitV00 h1 h2
  have hf0 : fst n 0 = 0 := by unfold fst; rw [Int.zero_emod, Int.sub_zero]; exact Int.emod_self
  have HF : Hid ((n - 0 % n) % n = 0) := hf0
  clear hf0
  have HOK := Lib.hid hok
  clear hok
  refine (callsIn_wide (n := 6)).1 ?_
  have hro : Fence.wide.round = none := rfl
  refine callsIn_of_wp_marks Try.func20 rfl trivial ?_ hro
  simp only [Try.ntmps20, List.size_toArray, List.length_cons, List.length_nil, Nat.reduceAdd, Nat.reduceSub, Array.replicate_succ, Array.replicate_zero, List.push_toArray, List.append_toArray, List.nil_append, List.cons_append]
  gi_wp2_with (first
    | (refine ⟨trivial, ?_⟩; gi_at_call 32; refine (callsIn_wide.2 (group_yes _ _ h1 h2)).mono ?_; rintro e w' ⟨rfl, rfl⟩)
    | (refine ⟨trivial, ?_⟩; gi_at_call 33; refine (turns_in Fence.wide _ trivial rfl _ _ _).mono ?_; rintro e w' ⟨rfl, rfl⟩))
  have hW0 : ∃ W0 : World, W0 = (((((w.alloc (Obj.cells #[Value.int IntKind.i64 n] 3)).alloc (Obj.cells #[Value.int IntKind.i64 0] 3)).alloc
                  (Obj.cells #[Value.int IntKind.i64 0] 3)).alloc
              (Obj.cells #[Value.int IntKind.i64 0] 22)).alloc
          (Obj.cells #[Value.int IntKind.i64 n] 3)).alloc
      (Obj.cells #[Value.int IntKind.i64 0] 3) := ⟨_, rfl⟩
  obtain ⟨W0, hW0⟩ := hW0
  rw [← hW0]
  have b0 : Boxed W0 w.heap.size 3 (.int .i64 n) := by rw [hW0]; exact (((((Boxed.new _ _ _).alloc _).alloc _).alloc _).alloc _).alloc _
  have b1 : Boxed W0 (w.heap.size + 1) 3 (.int .i64 0) := by
    rw [hW0]
    have := ((((Boxed.new (w.alloc (Obj.cells #[Value.int IntKind.i64 n] 3)) 3 (.int .i64 0)).alloc (Obj.cells #[Value.int IntKind.i64 0] 3)).alloc (Obj.cells #[Value.int IntKind.i64 0] 22)).alloc (.cells #[Value.int IntKind.i64 n] 3)).alloc (.cells #[Value.int IntKind.i64 0] 3)
    rwa [World.size_alloc] at this
  have b2 : Boxed W0 (w.heap.size + 2) 3 (.int .i64 0) := by
    rw [hW0]
    have := (((Boxed.new ((w.alloc (Obj.cells #[Value.int IntKind.i64 n] 3)).alloc (Obj.cells #[Value.int IntKind.i64 0] 3)) 3 (.int .i64 0)).alloc (Obj.cells #[Value.int IntKind.i64 0] 22)).alloc (.cells #[Value.int IntKind.i64 n] 3)).alloc (.cells #[Value.int IntKind.i64 0] 3)
    rwa [World.size_alloc, World.size_alloc] at this
  have b3 : Boxed W0 (w.heap.size + 3) 22 (.int .i64 0) := by
    rw [hW0]
    have := ((Boxed.new (((w.alloc (Obj.cells #[Value.int IntKind.i64 n] 3)).alloc (Obj.cells #[Value.int IntKind.i64 0] 3)).alloc (Obj.cells #[Value.int IntKind.i64 0] 3)) 22 (.int .i64 0)).alloc (.cells #[Value.int IntKind.i64 n] 3)).alloc (.cells #[Value.int IntKind.i64 0] 3)
    rwa [World.size_alloc, World.size_alloc, World.size_alloc] at this
  have bN : W0.cell? ⟨w.heap.size + 4, 0, none⟩ = some (.int .i64 n) := by rw [hW0]; simp [go_sem]
  have bR : W0.cell? ⟨w.heap.size + 4 + 1, 0, none⟩ = some (.int .i64 0) := by rw [hW0]; simp [go_sem]
  have hB0 : Below w.heap.size w W0 := by rw [hW0]; exact ((((((Below.refl _ w).alloc (Nat.le_refl _) _).alloc (by simp) _).alloc (by simp; omega) _).alloc (by simp; omega) _).alloc (by simp; omega) _).alloc (by simp; omega) _
  have hS0 : W0.heap.size = w.heap.size + 6 := by rw [hW0]; simp
  clear hW0
  refine wpIn_rangeFunc_ownG hro (by omega) (gf := 37) (lb := #[.pointer (some ⟨w.heap.size + 4, 0, none⟩), .pointer (some ⟨w.heap.size + 4 + 1, 0, none⟩)]) rfl trivial (enters_of Try.func37 (by kernel_rfl) rfl)
    (turns_stops Fence.wide (6 - 1) trivial hro (by omega) (w.heap.size + 4) n 0 0 h1 h2 (by omega) (by omega) HF W0 (by omega) bN bR) (fun h k => k.trans h) (cellKp_b (by omega)) (Below.refl _ _) (fun _ => rfl)
    (fun pre W => (pre = [] ∧ Boxed W w.heap.size 3 (.int .i64 n) ∧ Boxed W (w.heap.size + 1) 3 (.int .i64 0) ∧ Boxed W (w.heap.size + 2) 3 (.int .i64 0) ∧ Boxed W (w.heap.size + 3) 22 (.int .i64 0)) ∧ Below w.heap.size w W)
    (fun c pre W => (c = .ret ∧ ∃ x, pre = [x] ∧ W.cell? ⟨w.heap.size + 1, 0, none⟩ = some (.int .i64 x) ∧ W.cell? ⟨w.heap.size + 2, 0, none⟩ = some (.int .i64 (waitV x 0 n)) ∧ W.cell? ⟨w.heap.size + 3, 0, none⟩ = some (.int .i64 (waitE x 0 n))) ∧ Below w.heap.size w W)
    (OwnFrom.and (Own.from (fun s A B row hs hg hr => ⟨hs.1, boxed_own _ _ (fun _ => _) s A B row hs.2.1 hg hr, boxed_own _ _ (fun _ => _) s A B row hs.2.2.1 hg hr, boxed_own _ _ (fun _ => _) s A B row hs.2.2.2.1 hg hr, boxed_own _ _ (fun _ => _) s A B row hs.2.2.2.2 hg hr⟩) _) (ownFrom_below (Nat.le_refl _) (by omega)))
    (fun c => OwnFrom.and (Own.from (fun s A B row hs hg hr => by
      obtain ⟨hc, x, hx, c1, c2, c3⟩ := hs
      exact ⟨hc, x, hx, cell_kept c1 hg hr, cell_kept c2 hg hr, cell_kept c3 hg hr⟩) _) (ownFrom_below (Nat.le_refl _) (by omega)))
    ⟨⟨rfl, b0, b1, b2, b3⟩, hB0⟩
    (fun x => { tmps := #[Value.int IntKind.i64 n, Value.pointer (some { block := w.heap.size, off := 0 }),
          Value.pointer (some { block := w.heap.size + 1, off := 0 }),
          Value.pointer (some { block := w.heap.size + 1 + 1, off := 0 }),
          Value.pointer (some { block := w.heap.size + 1 + 1 + 1, off := 0 }), Value.int IntKind.i64 0, .int .i64 x, undef,
          undef, Value.int IntKind.i64 n, Value.int IntKind.i64 0, Value.int IntKind.i64 0, Value.bool false, undef,
          Value.int IntKind.i64 n,
          Value.func (Fn.func 37) #[]
            #[Value.pointer (some { block := w.heap.size + 1 + 1 + 1 + 1, off := 0 }),
              Value.pointer (some { block := w.heap.size + 1 + 1 + 1 + 1 + 1, off := 0 })],
          .int .i64 x, undef, undef, undef, undef, undef, undef, undef, undef, undef], defers := [] }) ?assign ?body ?done ?stop
  case assign =>
    intro l x W K hK
    gi_wp2
    exact hK
  case body =>
    rintro l pre x W ⟨⟨rfl, b0, b1, b2, b3⟩, hB⟩ _
    have c0 := b0.cell
    have l3 := b3.lt
    gi_wp2_with (refine ⟨trivial, ?_⟩; gi_at_call 11; refine (CallsIn.inRound l (callsIn_wide.2 (wait_any _ _ _ _))).mono ?_; rintro e w1 ⟨rfl, hb1⟩; have x1 : Boxed w1 (w.heap.size + 1) 3 (.int .i64 0) := b1.kept (grown_of_below hb1 none) (by simp); have x2 : Boxed w1 (w.heap.size + 2) 3 (.int .i64 0) := b2.kept (grown_of_below hb1 none) (by simp); have x3 : Boxed w1 (w.heap.size + 3) 22 (.int .i64 0) := b3.kept (grown_of_below hb1 none) (by simp); have y1 := x1.cell; have y2 := x2.cell; have y3 := x3.cell; have z1 := x1.frozen; have z2 := x2.frozen; have z3 := x3.frozen)
    refine ⟨?_, ⟨rfl, x, rfl, ?_, ?_, ?_⟩, ?_⟩
    · exact ((((keeps_of_below hb1).trans (KeepsOthers.setCell _ _ _)).trans (KeepsOthers.setCell _ _ _)).trans (KeepsOthers.setCell _ _ _)).from _
    · exact (((x1.set (.int .i64 x)).other (B' := w.heap.size + 2) (by omega) _).other (B' := w.heap.size + 3) (by omega) _).cell
    · exact (((x2.other (B' := w.heap.size + 1) (by omega) _).set (.int .i64 (waitV x 0 n))).other (B' := w.heap.size + 3) (by omega) _).cell
    · exact (((x3.other (B' := w.heap.size + 1) (by omega) _).other (B' := w.heap.size + 2) (by omega) _).set (.int .i64 (waitE x 0 n))).cell
    · exact (((hB.trans (hb1.mono hB.size)).setCell (p := ⟨w.heap.size + 1, 0, none⟩) (by show w.heap.size ≤ w.heap.size + 1; omega) _).setCell (p := ⟨w.heap.size + 2, 0, none⟩) (by show w.heap.size ≤ w.heap.size + 2; omega) _).setCell (p := ⟨w.heap.size + 3, 0, none⟩) (by show w.heap.size ≤ w.heap.size + 3; omega) _
  case done =>
    rintro D ys W hD rfl ⟨⟨hy, _⟩, hB⟩ hK
    have := congrArg List.length hy
    rw [upto_length] at this
    simp at this
    omega
  case stop =>
    rintro D c pre W hD ⟨k, hk⟩ ⟨⟨rfl, x, hx, c1, c2, c3⟩, hB⟩ hK
    have hk1 : k = 1 := by have := congrArg List.length (hk.symm.trans hx); rw [upto_length] at this; simpa using this
    subst hk1
    have hx0 : x = 0 := by
      rw [hk] at hx
      simp [upto, nth] at hx
      exact hx.symm
    subst hx0
    gi_wp2
    refine ⟨by simp, .inl ⟨_, _, rfl, run_takeDeferred hK, ?_⟩⟩
    have d1 := cell_kept c1 (grownBy_putObj' _ D (.deferred none)) (fun r e => by cases e; exact ⟨_, hK, rfl⟩)
    have d2 := cell_kept c2 (grownBy_putObj' _ D (.deferred none)) (fun r e => by cases e; exact ⟨_, hK, rfl⟩)
    have d3 := cell_kept c3 (grownBy_putObj' _ D (.deferred none)) (fun r e => by cases e; exact ⟨_, hK, rfl⟩)
    refine ⟨.tuple #[.int .i64 0, .int .i64 (waitV 0 0 n), .int .i64 (waitE 0 0 n)], ?_, ?_, hB.trans (belowK_b (w := w) (Nat.le_refl _) W D _ _ (by omega) hK rfl rfl)⟩
    · simp [results, Try.f20, go_sem, d1, d2, d3]
    · unfold waitV waitE
      rw [if_pos HOK.out, if_pos HOK.out]
      simp

theorem first_no (n : Int) (w : World) (h : ¬ okN n) :
    Calls Try.prog 20 #[.int .i64 n] w fun e w' => e = .returned (.tuple #[.int .i64 0, .int .i64 0, .int .i64 2]) ∧ Below w.heap.size w w' := by
  have hb := bad_of h
  go_enter Try.func20, Try.ntmps20
  go_wp2_with (go_at_call 32; refine (group_no _ _ hb).mono ?_; rintro e w' ⟨rfl, rfl⟩)
  exact bodyPost_ret (v := .tuple #[.int .i64 0, .int .i64 0, .int .i64 2]) (by simp [results, Try.f20, go_sem]) rfl ⟨rfl, ((((Below.refl _ w).alloc (Nat.le_refl _) _).alloc (by simp) _).alloc (by simp; omega) _).alloc (by simp; omega) _⟩

theorem first_any (n : Int) (w : World) :
    Calls Try.prog 20 #[.int .i64 n] w fun e w' => e = .returned (.tuple #[.int .i64 0, .int .i64 (firstV n), .int .i64 (errN n)]) ∧ Below w.heap.size w w' := by
  unfold firstV errN
  by_cases h : okN n
  · simp only [if_pos h]; exact first_yes n w h.1 h.2
  · simp only [if_neg h]; exact first_no n w h

theorem rfirst_any (n : Int) (w : World) :
    Calls Try.prog 21 #[.int .i64 n] w fun e w' => e = .returned (.tuple #[.int .i64 0, .int .i64 (firstV n), .int .i64 (errN n)]) ∧ Below w.heap.size w w' := by
  unfold firstV errN
  by_cases h : okN n
  · simp only [if_pos h]
    obtain ⟨h1, h2⟩ := h
    have hf : nth n (fst n 0) 0 = 0 := by unfold nth fst; rcases seven h1 h2 with rfl | rfl | rfl | rfl | rfl | rfl | rfl <;> rfl
    have HF := Lib.hid hf
    clear hf
    have hpos : (0 : Int) < (n.toNat : Int) := by omega
    go_enter Try.func21, Try.ntmps21
    go_wp2_with (first
      | (go_at_call 23; refine (rorder_yes _ _ _ h1 h2 (by omega) (by omega)).mono ?_; rintro e w1 ⟨v, rfl, ⟨g, cap, rfl, q1, q2, q3⟩, hb⟩; have hc := q3 0 (by omega); rw [HF.out] at hc; clear q3)
      | (go_at_call 31; refine (rwait_any _ _ _ _ (by omega) (by omega) (by omega) h1 h2).mono ?_; rintro e w' ⟨rfl, rfl⟩))
    go_quiet ((go_at_call 31; exact Calls.quiet_of_same ((rwait_any _ _ _ _ (by omega) (by omega) (by omega) h1 h2).mono fun _ _ ⟨a, b⟩ => ⟨a, b.symm⟩)))
    go_wp2
    go_ret3
    exact ⟨ret_ints3 rfl (by simp) rfl, below_drewN' hb _⟩
  · simp only [if_neg h]
    have hb := bad_of h
    go_enter Try.func21, Try.ntmps21
    go_wp2_with (go_at_call 23; refine (rorder_no _ _ _ (by omega)).mono ?_; rintro e w' ⟨rfl, rfl⟩)
    go_ret3
    exact ⟨rfl, Below.refl _ _⟩

/-! ### Apart -/
def okA (n r d : Int) : Prop := 1 ≤ n ∧ n ≤ 7 ∧ 0 ≤ r ∧ 0 ≤ d
instance (n r d : Int) : Decidable (okA n r d) := by unfold okA; infer_instance
def apartB (n d : Int) : Bool := decide (n = 1) || decide (d < 4)
def apartV (n r d : Int) : Bool := if okA n r d then apartB n d else false
def apartE (n r d : Int) : Int := if okA n r d then 0 else 2

theorem apart_any (n r d : Int) (w : World) :
    Calls Try.prog 24 #[.int .i64 n, .int .i64 r, .int .i64 d] w fun e w' => e = .returned (.tuple #[.bool (apartV n r d), .int .i64 (apartE n r d)]) ∧ Below w.heap.size w w' := by
  unfold apartV apartE
  by_cases h : okA n r d
  · simp only [if_pos h]
    obtain ⟨h1, h2, h3, h4⟩ := h
    have hchk : chk n 2 (f2 r d) = 0 := chk2_ok h1 h2 h3 h4
    by_cases hn : n = 1
    · have hB : apartB n d = true := by unfold apartB; simp [hn]
      rw [hB]; clear hB
      subst hn
      go_enter Try.func24, Try.ntmps24
      go_wp2_with (go_at_call 29; refine (checked_any _ _ (f2 r d) 2 _ (by omega) (cells2 _ _ _ _)).mono ?_; rintro e w' ⟨rfl, rfl⟩)
      go_ret2
      exact ⟨rfl, (Below.refl _ _).alloc (Nat.le_refl _) _⟩
    · have hn' : ((n : Int) == 1) = false := by simpa using hn
      by_cases hd : d < 4
      · have hB : apartB n d = true := by unfold apartB; simp [hd]
        rw [hB]; clear hB hn
        go_enter Try.func24, Try.ntmps24
        go_wp2_with (go_at_call 29; refine (checked_any _ _ (f2 r d) 2 _ (by omega) (cells2 _ _ _ _)).mono ?_; rintro e w' ⟨rfl, rfl⟩)
        go_ret2
        exact ⟨rfl, (Below.refl _ _).alloc (Nat.le_refl _) _⟩
      · have hB : apartB n d = false := by unfold apartB; simp [hd, hn]
        have hd' : decide (d < 4) = false := by simpa using hd
        rw [hB]; clear hB hn hd
        go_enter Try.func24, Try.ntmps24
        go_wp2_with (go_at_call 29; refine (checked_any _ _ (f2 r d) 2 _ (by omega) (cells2 _ _ _ _)).mono ?_; rintro e w' ⟨rfl, rfl⟩)
        go_ret2
        exact ⟨rfl, (Below.refl _ _).alloc (Nat.le_refl _) _⟩
  · simp only [if_neg h]
    have hchk : chk n 2 (f2 r d) = 2 := chk2_no (by unfold okA at h; omega)
    clear h
    go_enter Try.func24, Try.ntmps24
    go_wp2_with (go_at_call 29; refine (checked_any _ _ (f2 r d) 2 _ (by omega) (cells2 _ _ _ _)).mono ?_; rintro e w' ⟨rfl, rfl⟩)
    go_ret2
    exact ⟨rfl, (Below.refl _ _).alloc (Nat.le_refl _) _⟩

def wv (k r n : Int) : Int := 6 + 4 * ((k + r) % n)
theorem rwait_q (k r n : Int) (w : World) (hk : 0 ≤ k) (hk2 : k < 8) (hr : 0 ≤ r) (hn : 1 ≤ n) (hn7 : n ≤ 7) :
    Calls Try.prog 31 #[.int .i64 k, .int .i64 r, .int .i64 n] w fun e w' => e = .returned (.int .i64 (wv k r n)) ∧ w' = w :=
  (rwait_any k r n w hk hk2 hr hn hn7).mono fun _ _ ⟨a, b⟩ => ⟨a, b.symm⟩

set_option maxHeartbeats 1000000 in
theorem rapart_any (n r d : Int) (w : World) (hr : r ≤ 9223372036854775807) :
    Calls Try.prog 25 #[.int .i64 n, .int .i64 r, .int .i64 d] w fun e w' => e = .returned (.tuple #[.bool (apartV n r d), .int .i64 (apartE n r d)]) ∧ Below w.heap.size w w' := by
  unfold apartV apartE
  by_cases ho : n < 1 ∨ 7 < n ∨ r < 0
  · have h : ¬ okA n r d := by unfold okA; omega
    simp only [if_neg h]
    clear h
    go_enter Try.func25, Try.ntmps25
    go_wp2_with (go_at_call 23; refine (rorder_no _ _ _ ho).mono ?_; rintro e w' ⟨rfl, rfl⟩)
    go_ret2
    exact ⟨rfl, Below.refl _ _⟩
  · have h1 : 1 ≤ n := by omega
    have h2 : n ≤ 7 := by omega
    have h3 : 0 ≤ r := by omega
    clear ho
    by_cases hd : d < 0
    · have h : ¬ okA n r d := by unfold okA; omega
      simp only [if_neg h]
      clear h
      go_enter Try.func25, Try.ntmps25
      go_wp2_with (go_at_call 23; refine (rorder_yes _ _ _ h1 h2 h3 hr).mono ?_; rintro e w1 ⟨v, rfl, ⟨g, cap, rfl, q1, q2, q3⟩, hb⟩; clear q3)
      go_ret2
      exact ⟨rfl, hb⟩
    · have h : okA n r d := ⟨h1, h2, h3, by omega⟩
      simp only [if_pos h]
      clear h
      by_cases hn : n = 1
      · have hB : apartB n d = true := by unfold apartB; simp [hn]
        rw [hB]; clear hB
        subst hn
        go_enter Try.func25, Try.ntmps25
        go_wp2_with (go_at_call 23; refine (rorder_yes _ _ _ h1 h2 h3 hr).mono ?_; rintro e w1 ⟨v, rfl, ⟨g, cap, rfl, q1, q2, q3⟩, hb⟩; clear q3)
        go_quiet (fail)
        go_wp2
        go_ret2
        exact ⟨rfl, below_drewN' hb _⟩
      · have hn' : ((n : Int) == 1) = false := by simpa using hn
        have hB : apartB n d = decide (d < 4) := by unfold apartB; simp [hn]
        rw [hB]; clear hB
        have p0 := pos_nth (r := r) h1 h2 0 (by omega)
        have p1 := pos_nth (r := r) h1 h2 1 (by omega)
        obtain ⟨u1, u2⟩ := nth_bd (r := r) h1 0
        obtain ⟨v1, v2⟩ := nth_bd (r := r) h1 1
        generalize hx0 : nth n (fst n r) 0 = x0 at *
        generalize hx1 : nth n (fst n r) 1 = x1 at *
        have HX0 := Lib.hid hx0
        have HX1 := Lib.hid hx1
        have W0 : wv x0 r n = 6 := by unfold wv; rw [p0]; rfl
        have W1 : wv x1 r n = 10 := by unfold wv; rw [p1]; rfl
        have hpos : (1 : Int) < (n.toNat : Int) := by omega
        have hpos0 : (0 : Int) < (n.toNat : Int) := by omega
        have hn1 : 1 < n := by omega
        clear hx0 hx1 p0 p1 hn
        go_enter Try.func25, Try.ntmps25
        go_wp2_with (go_at_call 23; refine (rorder_yes _ _ _ h1 h2 h3 hr).mono ?_; rintro e w1 ⟨v, rfl, ⟨g, cap, rfl, q1, q2, q3⟩, hb⟩; have hc0 := q3 0 (by omega); rw [HX0.out] at hc0; have hc1 := q3 1 (by omega); rw [HX1.out] at hc1; clear q3)
        go_quiet ((go_at_call 31; exact Calls.quiet_of_same (rwait_q _ _ _ _ (by omega) (by omega) (by omega) h1 h2)))
        go_wp2
        go_ret2
        exact ⟨rfl, below_drewN' hb _⟩
end Go.Proofs.Ytklfbngmakkefaa
