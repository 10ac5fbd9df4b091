/- ChosenOnly's closure; slices.ContainsFunc by it. -/
import Derived.Test.YthkdmpalhdifbaaDoorChoY
import Derived.Deep.DeepMust
import Derived.Deep.RegionHeld3
import Derived.Deep.DeepCutAuto
import Derived.Deep.CutBlock
import Derived.Deep.LoopGhost
set_option linter.unusedVariables false
set_option linter.unusedSimpArgs false
namespace Go.Proofs.YthkdmpalhdifbaaDoor
open Go.RowKit Go.Maps Go.Shelf

/-- An entry lies in a block of its own. -/
def EnAt (w : World) (b : Nat) (s : Int) (e : Ba) (v : ByteArray) : Prop := Blk w b 40 #[.int .i64 s, .int .i64 e.1, .int .i64 e.2, .string v]
def pOnly (s : Int) (e : Ba) (v : ByteArray) (x : Vt) : Bool := (x.sl == s) && ((!(x.v.toList == v.toList)) && decide (ordB (vbl x) e > 0))
set_option maxRecDepth 100000 in
set_option maxHeartbeats 2000000 in
theorem only1_any (b : Nat) (s er ed : Int) (v : ByteArray) (nd r d sl : Int) (xv : ByteArray) (w : World) (h : EnAt w b s (er, ed) v) :
    Calls Tryd.prog 19 #[.agg #[.int .i64 nd, .int .i64 r, .int .i64 d, .int .i64 sl, .string xv], .pointer (some ⟨b, 0, none⟩)] w fun e w' => e = .returned (.bool (pOnly s (er, ed) v ⟨nd, r, d, sl, xv⟩)) ∧ Below w.heap.size w w' := by
  have hb := box_below w (.cells #[.int .i64 nd, .int .i64 r, .int .i64 d, .int .i64 sl, .string xv] 25)
  have HB := Lib.hid hb
  have H := Lib.hid h
  have e0 := bcell hb (Blk.cell h (i := 0) (v := .int .i64 s) rfl)
  have e1 := bcell hb (Blk.cell h (i := 1) (v := .int .i64 er) rfl)
  have e2 := bcell hb (Blk.cell h (i := 2) (v := .int .i64 ed) rfl)
  have e3 := bcell hb (Blk.cell h (i := 3) (v := .string v) rfl)
  clear h hb
  unfold pOnly
  simp only
  cases h1 : (sl == s) with
  | false =>
    go_enter Tryd.func19, Tryd.ntmps19
    go_wp2_with fail
    go_returns
    exact ⟨rfl, HB.out⟩
  | true =>
    cases h2 : (xv.toList == v.toList) with
    | true =>
      go_enter Tryd.func19, Tryd.ntmps19
      go_wp2_with fail
      go_returns
      exact ⟨rfl, HB.out⟩
    | false =>
      go_enter Tryd.func19, Tryd.ntmps19
      go_wp2_with (go_at_call 16; refine (order_any _ _ _ _ _).mono ?_; rintro e w2 ⟨rfl, b2⟩; have B2 := Lib.hid (bchain HB.out b2); clear b2)
      go_returns
      exact ⟨rfl, B2.out⟩

set_option maxRecDepth 100000 in
set_option maxHeartbeats 2000000 in
theorem ixOnly (b : Nat) (s : Int) (er ed : Int) (v : ByteArray) (va : Value) (L : List Vt) (w : World) (h : EnAt w b s (er, ed) v) (hv : VotesIn w va L) :
    Calls Tryd.prog 36 #[va, .func (.func 19) #[] #[.pointer (some ⟨b, 0, none⟩)]] w fun e w' =>
      ∃ r : Int, e = .returned (.int .i64 r) ∧ (decide (r ≥ 0) = L.any (pOnly s (er, ed) v)) ∧ Below w.heap.size w w' := by
  obtain ⟨A0, cap0, rfl, hcap0, hmax0, hcells⟩ := hv
  have HC := Lib.hid hcells
  have H := Lib.hid h
  have hml : cap0 ≤ 9223372036854775807 := by unfold maxLen at hmax0; omega
  clear hcells hmax0 h
  go_enter Tryd.func36, Tryd.ntmps36
  go_wp2_with fail
  go_loopg [8] L.length (fun g c wr => ∃ j, j ≤ L.length ∧ g = L.length - j ∧ c = .int .i64 j ∧ (∀ x ∈ L.take j, pOnly s (er, ed) v x = false) ∧ Below w.heap.size w wr)
  case atStart => exact ⟨0, by omega, by omega, rfl, by simp, Below.refl _ _⟩
  case round =>
    obtain ⟨j, hj, rfl, rfl, hno, hB⟩ := hrel
    have NO := Lib.hid hno
    have B := Lib.hid hB
    clear hno hB
    by_cases hlt : j < L.length
    case pos =>
      obtain ⟨b0, off, rfl, hb, hcc⟩ := HC.out (by omega)
      obtain ⟨⟨nd, r, d, sl, xv⟩, hx⟩ : ∃ x, L[j]? = some x := ⟨_, List.getElem?_eq_getElem hlt⟩
      obtain ⟨q0, q1, q2, q3, q4⟩ := hcc j _ hx
      simp only at q0 q1 q2 q3 q4
      have q0 := bcell B.out q0
      have q1 := bcell B.out q1
      have q2 := bcell B.out q2
      have q3 := bcell B.out q3
      have q4 := bcell B.out q4
      have HX := Lib.hid hx
      have EN : Hid (EnAt wr b s (er, ed) v) := Blk.fr H.out (Fr.of_below B.out : Fr S0 _ _) (fun h => h)
      clear hx hcc
      obtain ⟨pb, hpb⟩ : ∃ pb, pOnly s (er, ed) v ⟨nd, r, d, sl, xv⟩ = pb := ⟨_, rfl⟩
      have HP := Lib.hid hpb
      clear hpb
      cases pb with
      | true =>
        go_wp2_with (go_at_call 19; refine (only1_any b s er ed v nd r d sl xv _ EN.out).mono ?_; rw [HP.out]; rintro e w2 ⟨rfl, b2⟩; have B2 := Lib.hid (bchain B.out b2); clear b2)
        go_returns
        refine ⟨_, rfl, ?_, B2.out⟩
        have : L.any (pOnly s (er, ed) v) = true := List.any_eq_true.2 ⟨_, List.mem_of_getElem? HX.out, HP.out⟩
        rw [this]
        simp
      | false =>
        go_wp2_with (go_at_call 19; refine (only1_any b s er ed v nd r d sl xv _ EN.out).mono ?_; rw [HP.out]; rintro e w2 ⟨rfl, b2⟩; have B2 := Lib.hid (bchain B.out b2); clear b2)
        go_roundg (L.length - (j + 1))
        case measure => omega
        case rel =>
          refine ⟨j + 1, by omega, rfl, by go_num, fun x hx => ?_, B2.out⟩
          rcases (mem_take_succ HX.out).1 hx with hx | rfl
          · exact NO.out x hx
          · exact HP.out
    case neg =>
      have e : j = L.length := by omega
      subst e
      go_wp2_with fail
      go_returns
      refine ⟨_, rfl, ?_, B.out⟩
      have : L.any (pOnly s (er, ed) v) = false := by
        rw [List.any_eq_false]
        intro x hx
        rw [NO.out x (by rw [List.take_length]; exact hx)]
        simp
      rw [this]
      simp
theorem cfOnly (b : Nat) (s : Int) (er ed : Int) (v : ByteArray) (va : Value) (L : List Vt) (w : World) (h : EnAt w b s (er, ed) v) (hv : VotesIn w va L) :
    Calls Tryd.prog 18 #[va, .func (.func 19) #[] #[.pointer (some ⟨b, 0, none⟩)]] w fun e w' =>
      e = .returned (.bool (L.any (pOnly s (er, ed) v))) ∧ Below w.heap.size w w' := by
  have hi := ixOnly b s er ed v va L w h hv
  go_enter Tryd.func18, Tryd.ntmps18
  go_wp2_with (go_at_call 36; refine hi.mono ?_; rintro e w2 ⟨r, rfl, hr, b2⟩; have HR := Lib.hid hr; have B2 := Lib.hid b2; clear hr b2)
  go_returns
  exact ⟨by rw [HR.out]; rfl, B2.out⟩
theorem chk9 {n : Nat} (hn : 1 ≤ n ∧ n ≤ 7) (r : Int) (hr : 1 ≤ r ∧ r ≤ 1073741824) : chkE n r 0 = 0 := by
  unfold chkE
  rw [if_neg (by omega), if_neg (by omega), if_neg (by omega)]
theorem pOnly_no {s : Int} {e : Ba} {v : ByteArray} {L : List Vt} (h : L.any (pOnly s e v) = false) : ∀ x ∈ L, x.sl = s → blt e (vbl x) → x.v = v := fun x hx hs hb => by
  rw [List.any_eq_false] at h
  apply Classical.byContradiction
  intro hne
  apply h x hx
  unfold pOnly
  rw [hs]
  have h1 : (x.v.toList == v.toList) = false := by
    rw [beq_eq_false_iff_ne]
    intro h2
    exact hne (toList_inj h2)
  rw [h1, decide_eq_true ((ordB_gt _ _).2 hb)]
  simp
end Go.Proofs.YthkdmpalhdifbaaDoor
