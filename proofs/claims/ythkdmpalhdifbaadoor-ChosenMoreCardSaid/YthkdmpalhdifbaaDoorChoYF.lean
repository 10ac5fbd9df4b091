/- slices.Contains of votes; what ChosenFree shares. -/
import Derived.Test.YthkdmpalhdifbaaDoorChoY
import Derived.Test.YthkdmpalhdifbaaDoorChoYO
import Derived.Laws.StructEq
set_option linter.unusedVariables false
set_option linter.unusedSimpArgs false
namespace Go.Proofs.YthkdmpalhdifbaaDoor
open Go.RowKit Go.Maps Go.Shelf

theorem eqBalN (n : Nat) (a b c d : Int) (w : World) : (Op.equalIn (n + 2) 23 (.agg #[.int .i64 a, .int .i64 b]) (.agg #[.int .i64 c, .int .i64 d])).run Tryd.prog w = .ok (a == c && b == d) w := by
  have u3 := Tryd.underlying3
  have a3 := Tryd.isAgg3
  have z3 := Tryd.sizeOf3
  have hS : Tryd.prog.underlying 23 = some (.struct (Tryd.prog.fieldsOf 23)) := by kernel_rfl
  have hp : Tryd.prog.stoodInHeld 23 = false := by kernel_rfl
  rw [run_equalIn_agg w (n + 1) 23 _ _ hS hp]
  simp only [Program.fieldsOf, Tryd.underlying23]
  go_simp
  by_cases h1 : a = c <;> by_cases h2 : b = d <;> simp [h1, h2]
def eqV (a b : Vt) : Bool := (a.nd == b.nd) && (((a.r == b.r) && (a.d == b.d)) && ((a.sl == b.sl) && (a.v.toList == b.v.toList)))
theorem eqV_self (a : Vt) : eqV a a = true := by unfold eqV; simp
theorem eqVt (a b : Vt) (w : World) : (Op.equalIn 10000 25 (vtV a) (vtV b)).run Tryd.prog w = .ok (eqV a b) w := by
  obtain ⟨a1, a2, a3, a4, a5⟩ := a
  obtain ⟨b1, b2, b3, b4, b5⟩ := b
  have u3 := Tryd.underlying3
  have a3' := Tryd.isAgg3
  have z3 := Tryd.sizeOf3
  have u9 := Tryd.underlying9
  have a9 := Tryd.isAgg9
  have z9 := Tryd.sizeOf9
  have a23 := Tryd.isAgg23
  have z23 := Tryd.sizeOf23
  have hS : Tryd.prog.underlying 25 = some (.struct (Tryd.prog.fieldsOf 25)) := by kernel_rfl
  have hp : Tryd.prog.stoodInHeld 25 = false := by kernel_rfl
  have hE := fun w => eqBalN 9997 a2 a3 b2 b3 w
  rw [show (10000 : Nat) = 9999 + 1 from rfl, run_equalIn_agg w 9999 25 _ _ hS hp]
  simp only [Program.fieldsOf, Tryd.underlying25]
  go_simp
  unfold eqV
  by_cases h1 : a1 = b1 <;> by_cases h2 : a2 = b2 <;> by_cases h3 : a3 = b3 <;> by_cases h4 : a4 = b4 <;> by_cases h5 : a5.toList = b5.toList <;> simp [h1, h2, h3, h4, h5]
theorem eqGVt : Tryd.prog.eqGuardType Tryd.prog.depth 25 = false := by kernel_rfl
set_option maxRecDepth 100000 in
set_option maxHeartbeats 2000000 in
/-- slices.Index of a vote that is there. -/
theorem index_any (y : Vt) (va : Value) (L : List Vt) (w : World) (hv : VotesIn w va L) (hy : y ∈ L) :
    Calls Tryd.prog 41 #[va, vtV y] w fun e w' => ∃ r : Int, e = .returned (.int .i64 r) ∧ 0 ≤ r ∧ Below w.heap.size w w' := by
  obtain ⟨A0, cap0, rfl, hcap0, hmax0, hcells⟩ := hv
  have HC := Lib.hid hcells
  have HY := Lib.hid hy
  have hml : cap0 ≤ 9223372036854775807 := by unfold maxLen at hmax0; omega
  have hGq := eqGVt
  obtain ⟨ynd, yr, yd, ysl, yv⟩ := y
  clear hcells hmax0 hy
  have hb := box_below w (.cells #[.int .i64 ynd, .int .i64 yr, .int .i64 yd, .int .i64 ysl, .string yv] 25)
  have kb := Blk.new w 25 #[.int .i64 ynd, .int .i64 yr, .int .i64 yd, .int .i64 ysl, .string yv]
  have HB := Lib.hid hb
  have KB := Lib.hid kb
  clear hb kb
  go_enter Tryd.func41, Tryd.ntmps41
  go_upto_region 1 with fail
  generalize (w.alloc (.cells #[.int .i64 ynd, .int .i64 yr, .int .i64 yd, .int .i64 ysl, .string yv] 25)) = W1 at *
  obtain ⟨bx, hbx⟩ : ∃ bx, bx = w.heap.size := ⟨_, rfl⟩
  rw [← hbx] at KB ⊢
  clear hbx
  go_wp2_with fail
  go_loopg [8] L.length (fun g c wr => ∃ j, j ≤ L.length ∧ g = L.length - j ∧ c = .int .i64 j ∧ (⟨ynd, yr, yd, ysl, yv⟩ : Vt) ∈ L.drop j ∧ Below W1.heap.size W1 wr)
  case atStart => exact ⟨0, by omega, by omega, rfl, by rw [List.drop_zero]; exact HY.out, Below.refl _ _⟩
  case round =>
    obtain ⟨j, hj, rfl, rfl, hin, hB⟩ := hrel
    have IN := Lib.hid hin
    have B := Lib.hid hB
    clear hin hB
    have hlt : j < L.length := by
      apply Classical.byContradiction
      intro h
      have := IN.out
      rw [List.drop_eq_nil_of_le (by omega)] at this
      cases this
    obtain ⟨b0, off, rfl, hb, hcc⟩ := HC.out (by omega)
    obtain ⟨⟨nd, r, d, sl, xv⟩, hx⟩ : ∃ x, L[j]? = some x := ⟨_, List.getElem?_eq_getElem hlt⟩
    obtain ⟨q0, q1, q2, q3, q4⟩ := hcc j _ hx
    simp only at q0 q1 q2 q3 q4
    have B2 := Lib.hid (bchain HB.out B.out)
    have q0 := bcell B2.out q0
    have q1 := bcell B2.out q1
    have q2 := bcell B2.out q2
    have q3 := bcell B2.out q3
    have q4 := bcell B2.out q4
    have KX := KB.out.fr (Fr.of_below B.out : Fr S0 _ _) (fun h => h)
    have y0 := KX.cell (i := 0) (v := .int .i64 ynd) rfl
    have y1 := KX.cell (i := 1) (v := .int .i64 yr) rfl
    have y2 := KX.cell (i := 2) (v := .int .i64 yd) rfl
    have y3 := KX.cell (i := 3) (v := .int .i64 ysl) rfl
    have y4 := KX.cell (i := 4) (v := .string yv) rfl
    have HX := Lib.hid hx
    clear hx hcc KX
    obtain ⟨q, hq⟩ : ∃ q, eqV ⟨ynd, yr, yd, ysl, yv⟩ ⟨nd, r, d, sl, xv⟩ = q := ⟨_, rfl⟩
    have hEz : ∀ w : World, (Op.equalIn 10000 25 (.agg #[.int .i64 ynd, .int .i64 yr, .int .i64 yd, .int .i64 ysl, .string yv]) (.agg #[.int .i64 nd, .int .i64 r, .int .i64 d, .int .i64 sl, .string xv])).run Tryd.prog w = .ok q w := fun w => by
      have := eqVt ⟨ynd, yr, yd, ysl, yv⟩ ⟨nd, r, d, sl, xv⟩ w
      rw [hq] at this
      exact this
    have HQ := Lib.hid hq
    clear hq
    cases q with
    | true =>
      go_wp2_with fail
      go_region_held3 (fun W => W.cell? ⟨bx, 0, none⟩ = some (.int .i64 ynd) ∧ W.cell? ⟨bx, 1, none⟩ = some (.int .i64 yr) ∧ W.cell? ⟨bx, 2, none⟩ = some (.int .i64 yd) ∧ W.cell? ⟨bx, 3, none⟩ = some (.int .i64 ysl) ∧ W.cell? ⟨bx, 4, none⟩ = some (.string yv) ∧
        W.cell? ⟨b0, off + j * 5, none⟩ = some (.int .i64 nd) ∧ W.cell? ⟨b0, off + j * 5 + 1, none⟩ = some (.int .i64 r) ∧ W.cell? ⟨b0, off + j * 5 + 2, none⟩ = some (.int .i64 d) ∧ W.cell? ⟨b0, off + j * 5 + 3, none⟩ = some (.int .i64 sl) ∧ W.cell? ⟨b0, off + j * 5 + 4, none⟩ = some (.string xv))
        (first | exact ⟨by assumption, by assumption, by assumption, by assumption, by assumption, by assumption, by assumption, by assumption, by assumption, by assumption⟩ | go_keep)
        (first | fail)
      go_wp2_with fail
      go_returns
      exact ⟨_, rfl, by omega, B2.out.drew⟩
    | false =>
      have IN2 : Hid ((⟨ynd, yr, yd, ysl, yv⟩ : Vt) ∈ L.drop (j + 1)) := by
        have h1 := IN.out
        rw [List.drop_eq_getElem_cons hlt] at h1
        rcases List.mem_cons.1 h1 with h1 | h1
        · have h2 := HX.out
          rw [List.getElem?_eq_getElem hlt] at h2
          have h3 := HQ.out
          rw [h1, Option.some.inj h2, eqV_self] at h3
          cases h3
        · exact h1
      go_wp2_with fail
      go_region_held3 (fun W => W.cell? ⟨bx, 0, none⟩ = some (.int .i64 ynd) ∧ W.cell? ⟨bx, 1, none⟩ = some (.int .i64 yr) ∧ W.cell? ⟨bx, 2, none⟩ = some (.int .i64 yd) ∧ W.cell? ⟨bx, 3, none⟩ = some (.int .i64 ysl) ∧ W.cell? ⟨bx, 4, none⟩ = some (.string yv) ∧
        W.cell? ⟨b0, off + j * 5, none⟩ = some (.int .i64 nd) ∧ W.cell? ⟨b0, off + j * 5 + 1, none⟩ = some (.int .i64 r) ∧ W.cell? ⟨b0, off + j * 5 + 2, none⟩ = some (.int .i64 d) ∧ W.cell? ⟨b0, off + j * 5 + 3, none⟩ = some (.int .i64 sl) ∧ W.cell? ⟨b0, off + j * 5 + 4, none⟩ = some (.string xv))
        (first | exact ⟨by assumption, by assumption, by assumption, by assumption, by assumption, by assumption, by assumption, by assumption, by assumption, by assumption⟩ | go_keep)
        (first | fail)
      go_wp2_with fail
      go_roundg (L.length - (j + 1))
      case measure => omega
      case rel => exact ⟨j + 1, by omega, rfl, by go_num, IN2.out, B.out.drew⟩
theorem containsV (y : Vt) (va : Value) (L : List Vt) (w : World) (hv : VotesIn w va L) (hy : y ∈ L) :
    Calls Tryd.prog 24 #[va, vtV y] w fun e w' => e = .returned (.bool true) ∧ Below w.heap.size w w' := by
  obtain ⟨nd, r, d, sl, xv⟩ := y
  have hb := box_below w (.cells #[.int .i64 nd, .int .i64 r, .int .i64 d, .int .i64 sl, .string xv] 25)
  have HB := Lib.hid hb
  have HV := Lib.hid (hv.below hb)
  have HY := Lib.hid hy
  clear hv hb hy
  go_enter Tryd.func24, Tryd.ntmps24
  go_wp2_with (go_at_call 41; refine (index_any ⟨nd, r, d, sl, xv⟩ va L _ HV.out HY.out).mono ?_; rintro e w2 ⟨k, rfl, hk, b2⟩; have hk2 : decide (k ≥ 0) = true := decide_eq_true hk; have B2 := Lib.hid (bchain HB.out b2); clear b2)
  go_returns
  exact ⟨by simp [hk], B2.out⟩
theorem bitsAnd8 : ∀ a : Fin 256, ∀ b : Fin 128, bits BinOp.and IntKind.u64 ((a.val : Nat) : Int) ((b.val : Nat) : Int) = ((a.val &&& b.val : Nat) : Int) := by decide +kernel
end Go.Proofs.YthkdmpalhdifbaaDoor
