/- The walk of skaldlaw25.ChosenTexts: it returns true, and writes nothing that was there. -/
import Derived.Test.YthkdmpalhdifbaaDoorChoX
import Derived.OpenShut
set_option linter.unusedVariables false
set_option linter.unusedSimpArgs false
namespace Go.Proofs.YthkdmpalhdifbaaDoor.chosenTexts
open Go.RowKit Go.Shelf

set_option maxRecDepth 100000 in
set_option maxHeartbeats 2000000 in
theorem walk (x : Vt) (W : World) (hx : okVt x) (ht : TabP W) :
    Calls Tryd.prog 3 #[.agg (encVt x).toArray] W fun e w' => e = .returned (.bool true) ∧ Below W.heap.size W w' := by
  obtain ⟨nd, r, d, sl, v⟩ := x
  have hb := box_below W (.cells #[.int .i64 nd, .int .i64 r, .int .i64 d, .int .i64 sl, .string v] 25)
  have kb := Blk.new W 25 #[.int .i64 nd, .int .i64 r, .int .i64 d, .int .i64 sl, .string v]
  have HB := Lib.hid hb
  have KB := Lib.hid kb
  have HT := Lib.hid ht
  have hw := @works_any
  have HW := Lib.hid hw
  show Calls Tryd.prog 3 #[.agg #[.int .i64 nd, .int .i64 r, .int .i64 d, .int .i64 sl, .string v]] W _
  clear hb kb ht hw hx
  by_cases hs : (v.size : Int) > 70000
  · go_enter Tryd.func3, Tryd.ntmps3
    go_wp2_with (go_at_call 8; refine (HW.out _).mono ?_; rintro e w2 ⟨rfl, b2⟩; have B2 := Lib.hid (bchain HB.out b2); clear b2)
    go_returns
    exact ⟨rfl, B2.out⟩
  · have hs1 : decide ((v.size : Int) > 70000) = false := by simpa using hs
    have hv : v.size ≤ 9223372036854775807 := by omega
    have hR : aloneB ⟨nd, r, d, sl, v⟩ 7 = true → (0 ≤ nd ∧ nd ≤ 9223372036854775807) ∧ (0 ≤ r ∧ r ≤ 9223372036854775807) ∧ (0 ≤ d ∧ d ≤ 9223372036854775807) ∧ (0 ≤ sl ∧ sl ≤ 9223372036854775807) := fun h => by
      obtain ⟨a1, a2, a3, a4, a5, a6⟩ := alone_bd7 h
      omega
    have HR := Lib.hid hR
    clear hR
    obtain ⟨S, hS⟩ : ∃ S : ByteArray × Int, (if aloneB ⟨nd, r, d, sl, v⟩ 7 = true then Value.tuple #[.string (vtxt ⟨nd, r, d, sl, v⟩), .int .i64 0] else .tuple #[.string ⟨#[]⟩, .int .i64 2]) = .tuple #[.string S.1, .int .i64 S.2] := by
      by_cases h : aloneB ⟨nd, r, d, sl, v⟩ 7 = true
      · rw [if_pos h]; exact ⟨(_, _), rfl⟩
      · rw [if_neg h]; exact ⟨(_, _), rfl⟩
    have HS := Lib.hid hS
    clear hS
    go_enter Tryd.func3, Tryd.ntmps3
    go_upto_region 4 with (go_at_call 9; refine (text_any itoaK_tab nd r d sl v _ (itoaK_tab.keep _ _ HT.out HB.out) HR.out).mono ?_; rw [HS.out]; rintro e w2 ⟨rfl, b2⟩; have B2 := Lib.hid (bchain HB.out b2); have K2 := Lib.hid (KB.out.fr (Fr.of_below b2 : Fr S0 _ _) (fun h => h)); clear b2)
    have q0 := K2.out.cell (i := 0) (v := .int .i64 nd) rfl
    have q1 := K2.out.cell (i := 1) (v := .int .i64 r) rfl
    have q2 := K2.out.cell (i := 2) (v := .int .i64 d) rfl
    have q3 := K2.out.cell (i := 3) (v := .int .i64 sl) rfl
    have q4 := K2.out.cell (i := 4) (v := .string v) rfl
    go_wp2_with (first
      | (go_at_call 10; refine (rtext_any nd r d sl v _ hv).mono ?_; rw [HS.out]; rintro e w3 ⟨rfl, b3⟩; have B3 := Lib.hid (bchain B2.out b3); clear b3)
      | (go_at_call 8; refine (HW.out _).mono ?_; rintro e w4 ⟨rfl, b4⟩; have B4 := Lib.hid (bchain B3.out b4); clear b4))
    go_returns
    exact ⟨rfl, B4.out⟩
end Go.Proofs.YthkdmpalhdifbaaDoor.chosenTexts
