/- skaldlaw21.ElectOrders returns true for every input, and changes none of its arguments. No condition. -/
import Derived.Test.YtklfbngmakkefaaRows
import Derived.Test.YtklfbngmakkefaaElectW
import Derived.WalkKit
import Derived.ProofKit
import Derived.OpenShut
import Derived.ShutString
import Derived.ChangeOld
import Derived.Below
set_option linter.unusedVariables false
set_option linter.unusedSimpArgs false
namespace Go.Proofs.Ytklfbngmakkefaa.electOrders
open Go.ChangeShapes Go.WideShapes Go.ChangeAt Go.RowKit
open Go.ChangeMaps (open_string shut_string)

theorem own : ownKnob Try.prog.godebug = none := by kernel_rfl
theorem laidOut : laidOutB Try.prog = true := by kernel_rfl

set_option maxRecDepth 100000 in
set_option maxHeartbeats 1000000 in
theorem walk0 (a0 a1 a2 : Int) (hr : a1 ≤ 9223372036854775807) (w : World) :
    Calls Try.prog 5 #[.int .i64 a0, .int .i64 a1, .int .i64 a2] w fun e w' => e = .returned (.bool true) ∧ Below w.heap.size w w' := by
  by_cases ho : a0 < 1 ∨ 7 < a0 ∨ a1 < 0
  · go_enter Try.func5, Try.ntmps5
    go_wp2_with (first
      | (go_at_call 22; refine (order_no _ _ _ ho).mono ?_; rintro e w1 ⟨rfl, hb1⟩)
      | (go_at_call 23; refine (rorder_no _ _ _ ho).mono ?_; rintro e w' ⟨rfl, rfl⟩)
      | (go_at_call 24; refine (apart_any _ _ _ _).mono ?_; rintro e w2 ⟨rfl, hb2⟩)
      | (go_at_call 25; refine (rapart_any _ _ _ _ hr).mono ?_; rintro e w3 ⟨rfl, hb3⟩)
      | (go_at_call 26; refine (equal_none _ _ _ _ _).mono ?_; rintro e w4 ⟨rfl, hb4⟩)
      | (go_at_call 13; refine (works_any _).mono ?_; rintro e w5 ⟨rfl, hb5⟩))
    go_ret
    exact ⟨rfl, bchain (bchain (bchain (bchain hb1 hb2) hb3) hb4) hb5⟩
  · have h1 : 1 ≤ a0 := by omega
    have h2 : a0 ≤ 7 := by omega
    have h3 : 0 ≤ a1 := by omega
    clear ho
    go_enter Try.func5, Try.ntmps5
    go_wp2_with fail
    refine (order_yes _ _ _ h1 h2 h3 hr).mono ?_
    rintro e w1 ⟨v, rfl, ⟨g, cap, rfl, r1, r2, r3⟩, hb1⟩
    have HC := Lib.hid r3
    clear r3
    go_wp2_with fail
    refine (rorder_yes _ _ _ h1 h2 h3 hr).mono ?_
    rintro e w2 ⟨v, rfl, ⟨g', cap', rfl, r1', r2', r3'⟩, hb2⟩
    have HC' := Lib.hid r3'
    clear r3'
    go_wp2_with (first
      | (go_at_call 24; refine (apart_any _ _ _ _).mono ?_; rintro e w3 ⟨rfl, hb3⟩)
      | (go_at_call 25; refine (rapart_any _ _ _ _ hr).mono ?_; rintro e w4 ⟨rfl, hb4⟩)
      | (go_at_call 26; refine (equal_yes _ _ _ _ _ (nth a0 (fst a0 a1)) (nth a0 (fst a0 a1)) _ (by omega) (fun i hi => bcell (bchain (bchain hb2 hb3) hb4) (HC.out i hi)) (fun i hi => bcell (bchain hb3 hb4) (HC'.out i hi)) (fun _ _ => rfl)).mono ?_; rintro e w5 ⟨rfl, hb5⟩)
      | (go_at_call 13; refine (works_any _).mono ?_; rintro e w6 ⟨rfl, hb6⟩))
    go_ret
    exact ⟨rfl, bchain (bchain (bchain (bchain (bchain hb1 hb2) hb3) hb4) hb5) hb6⟩
theorem walk (a0 a1 a2 : Int) (w0 : (Lit.int .i64 a0).wf = true) (w1 : (Lit.int .i64 a1).wf = true) (w2 : (Lit.int .i64 a2).wf = true) (w : World) :
    Calls Try.prog 5 #[.int .i64 a0, .int .i64 a1, .int .i64 a2] w fun e w' => e = .returned (.bool true) ∧ Below w.heap.size w w' :=
  walk0 a0 a1 a2 (bounds_i64 w1).2 w

set_option maxRecDepth 100000 in
theorem lifted (os : Os) (started : os.Started) (H : Type) (enc : TypeId × Value → H) :
    ReturnsInHanded {} Try.checked os 5 .any (Rows.electOrdersSpec.pre6 enc Try.prog Try.f5 Rows.electOrdersRow.domain false) (Rows.electOrdersSpec.post enc Try.prog Try.f5 false true false false) := by
  refine returnsInHanded_of_change (C := Try.checked) own started (by kernel_rfl) Try.func5
    (ChangeSpec.witness6 (enc := enc) (C := Try.checked) false ⟨#[], #[.int .i64 0, .int .i64 0, .int .i64 0], []⟩ 8 (by kernel_rfl) (by kernel_rfl) (by kernel_rfl) (by kernel_rfl)) ?_
  intro W base args ds gs before hval0 hW hcnd _
  have hval : ∀ (j : Nat) t v, Try.f5.params[j]? = some t → args[j]? = some v → Value.okWide Try.prog W .any base t v := hval0
  have hW' := hW
  obtain ⟨p, q, hA0, hV, rfl, hfz, hnd⟩ := hW
  have hA : DataW.TrodAll enc Try.prog W 0 (fun _ => true) true Try.f5.params.toList args.toList ds p := hA0
  rw [Try.params5] at hA hval
  obtain ⟨v0, vs0, d0, ds0, p0, q0, hargs, rfl, rfl, h0, r0⟩ := trodAll_cons hA
  obtain ⟨v1, vs1, d1, ds1, p1, q1, rfl, rfl, rfl, h1, r1⟩ := trodAll_cons r0
  obtain ⟨v2, vs2, d2, ds2, p2, q2, rfl, rfl, rfl, h2, r2⟩ := trodAll_cons r1
  obtain ⟨rfl, rfl, rfl⟩ := trodAll_nil r2
  obtain rfl : args = #[v0, v1, v2] := by cases args; simp_all
  obtain ⟨rfl, rfl⟩ := trodVars_none hV
  obtain ⟨a0, rfl, rfl, rfl, w0⟩ := open_int Try.underlying3 (hval 0 3 v0 rfl rfl) h0
  obtain ⟨a1, rfl, rfl, rfl, w1⟩ := open_int Try.underlying3 (hval 1 3 v1 rfl rfl) h1
  obtain ⟨a2, rfl, rfl, rfl, w2⟩ := open_int Try.underlying3 (hval 2 3 v2 rfl rfl) h2
  clear hA0 hval0
  simp only [List.append_nil] at hW'
  refine (walk a0 a1 a2 w0 w1 w2 W).mono fun e W' ⟨he, bel⟩ => ?_
  subst he
  exact ⟨_, rfl, _, _, _, [], [], [], hW', trodAll_mk1 (shut_bool Try.underlying4 _), (trodAll_cons_mk (shut_int Try.underlying3 w0) (trodAll_cons_mk (shut_int Try.underlying3 w1) (trodAll_cons_mk (shut_int Try.underlying3 w2) trodAll_mk0))), rfl, bel.frame _, fun h => by cases h⟩

theorem over : Rows.electOrdersRow.holds Try.pinned (OpenSpec.ofChange Rows.electOrdersSpec) :=
  OpenClaim.holds_of_wide 5 Try.f5 rfl rfl rfl rfl rfl rfl rfl ⟨rfl, rfl, rfl, rfl, rfl⟩ rfl rfl rfl rfl rfl (by kernel_rfl) Try.func5 (by kernel_rfl)
    (of_decide_eq_true (by kernel_rfl)) (by unfold Func.isWrapper; first | (rw [if_pos (by decide +kernel)]; kernel_rfl) | (rw [if_neg (by decide +kernel)]; exact ⟨rfl, rfl⟩))
    (fun os started H enc _ => lifted os started H enc)

/-- THE STATEMENT. -/
theorem proved : Rows.ElectOrdersSaid := over
end Go.Proofs.Ytklfbngmakkefaa.electOrders
