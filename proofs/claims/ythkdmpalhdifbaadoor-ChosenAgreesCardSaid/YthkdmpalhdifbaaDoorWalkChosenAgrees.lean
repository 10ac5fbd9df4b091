/- The walk of skaldlaw25.ChosenAgrees: it returns true, and writes nothing that was there. -/
import Derived.Test.YthkdmpalhdifbaaDoorChoY
import Derived.OpenShut
import Derived.Deep.DeepCutAuto
import Derived.Deep.CutBlock
import Derived.Deep.LoopGhost
import Derived.Deep.RegionHeld3
set_option linter.unusedVariables false
set_option linter.unusedSimpArgs false
namespace Go.Proofs.YthkdmpalhdifbaaDoor.chosenAgrees
open Go.RowKit Go.Shelf

set_option maxRecDepth 100000 in
set_option maxHeartbeats 2000000 in
theorem walk (x : Int) (v : Value) (zs : List Nat) (W : World) (w0 : (Lit.int .u8 x).wf = true) (w1 : NumsIn W v zs) (ht : TabP W) :
    Calls Tryd.prog 6 #[.int .u8 x, v] W fun e w' => e = .returned (.bool true) ∧ Below W.heap.size W w' := by
  obtain ⟨x, hx256, rfl⟩ := u8_nat w0
  have HN := Lib.hid w1
  have hw := @works_any
  have HW := Lib.hid hw
  obtain ⟨n, hn⟩ : ∃ n : Nat, n = 1 + x % 7 := ⟨_, rfl⟩
  have hn7 : 1 ≤ n ∧ n ≤ 7 := by omega
  have hxn : (1 : Int) + (x : Int) % 7 = (n : Int) := by omega
  clear w0 w1 ht hw hn
  go_enter Tryd.func6, Tryd.ntmps6
  go_upto_region 3 with (go_at_call 11; refine (votes_any n v zs _ HN.out hn7).mono ?_; rintro e w1 ⟨vo, L0, rfl, r1, o1, b1⟩; have R1 := Lib.hid (VtS.of_row r1); have O1 := Lib.hid o1; have B1 := Lib.hid b1; clear r1 o1 b1)
  obtain ⟨A0, hA0, hAO, hL0⟩ := O1.out.gather hn7
  have HA0 := Lib.hid hA0
  clear hA0 hAO
  go_upto_block 0 with (go_at_call 21; refine (check_yes n _ L0 A0 _ R1.out.at hn7 hL0 HA0.out).mono ?_; rintro e w2 ⟨rfl, b2⟩; have R2 := Lib.hid (R1.out.below b2); have B2 := Lib.hid (bchain B1.out b2); clear b2)
  clear HA0 R1 B1 HN
  go_wp2_with fail
  go_loopg [6] L0.length (fun g va wr => ∃ L, L.length = g ∧ VOk n L ∧ VtS wr W.heap.size va L ∧ Below W.heap.size W wr)
  case atStart => exact ⟨L0, rfl, O1.out, R2.out, B2.out⟩
  case round =>
    obtain ⟨L, rfl, hok, hrow, hB⟩ := hrel
    clear R2 B2 O1 hL0
    obtain ⟨wo, rfl⟩ : ∃ wo : World, wo = wr := ⟨_, rfl⟩
    obtain ⟨A, hA, hAO, hL⟩ := hok.gather hn7
    have OK := Lib.hid hok
    have HA := Lib.hid hA
    have HAO := Lib.hid hAO
    have ROW := Lib.hid hrow
    have B := Lib.hid hB
    clear hok hA hAO hrow hB
    obtain ⟨Ar, cap, rfl, hcap, hmax, hcells⟩ := ROW.out
    have HC := Lib.hid hcells
    have hml : cap ≤ 9223372036854775807 := by unfold maxLen at hmax; omega
    clear hcells
    go_wp2_with fail
    go_loopg [34, 9] L.length (fun g c a wr => ∃ j, j ≤ L.length ∧ g = L.length - j ∧ c = .int .i64 j ∧ a = .int .i64 (-1) ∧ (∀ y ∈ L.take j, SafeP n L y.sl y.v (vbl y)) ∧ Below wo.heap.size wo wr)
    case atStart => exact ⟨0, by omega, by omega, rfl, rfl, by simp, Below.refl _ _⟩
    case round =>
      obtain ⟨j, hj, rfl, rfl, rfl, hsafe, hB2⟩ := hrel
      obtain ⟨wi, rfl⟩ : ∃ wi : World, wi = wr := ⟨_, rfl⟩
      have SF := Lib.hid hsafe
      have B2 := Lib.hid hB2
      clear hsafe hB2
      by_cases hjl : j < L.length
      case pos =>
        obtain ⟨gb, rfl, hgb, hvb⟩ := HC.out (by omega)
        obtain ⟨⟨nd, r, d, sl, xv⟩, hx⟩ : ∃ x, L[j]? = some x := ⟨_, List.getElem?_eq_getElem hjl⟩
        have hxm := List.mem_of_getElem? hx
        obtain ⟨a1, a2, a3⟩ := alone_args (OK.out.poss.al _ hxm)
        have X1 := Lib.hid a1
        have X2 := Lib.hid a2
        have X3 := Lib.hid a3
        have HX := Lib.hid hx
        have hat := hvb.at (cap := cap) hcap hmax
        obtain ⟨_, _, e1, _, _, hcc⟩ := hat
        obtain ⟨b', off', e2, _, hcc⟩ := hcc (by omega)
        have e3 : b' = gb ∧ off' = 0 := by cases e1; cases e2; exact ⟨rfl, rfl⟩
        obtain ⟨rfl, rfl⟩ := e3
        obtain ⟨q0, q1, q2, q3, q4⟩ := hcc j _ hx
        simp only [Nat.zero_add] at q0 q1 q2 q3 q4
        have q0 := bcell B2.out q0
        have q1 := bcell B2.out q1
        have q2 := bcell B2.out q2
        have q3 := bcell B2.out q3
        have q4 := bcell B2.out q4
        have VB := Lib.hid hvb
        clear hx hxm a1 a2 a3 e1 e2 hcc hvb
        go_upto_region 10 with fail
        have bw := box_below wi (.cells #[.int .i64 nd, .int .i64 r, .int .i64 d, .int .i64 sl, .string xv] 25)
        have KX := Lib.hid (Blk.new wi 25 #[.int .i64 nd, .int .i64 r, .int .i64 d, .int .i64 sl, .string xv])
        have B3 := Lib.hid (bchain B2.out bw)
        generalize (wi.alloc (.cells #[.int .i64 nd, .int .i64 r, .int .i64 d, .int .i64 sl, .string xv] 25)) = W3 at *
        obtain ⟨bx, hbx⟩ : ∃ bx, bx = wi.heap.size := ⟨_, rfl⟩
        rw [← hbx] at KX ⊢
        clear bw q0 q1 q2 q3 q4 hbx B2
        have x1 := KX.out.cell (i := 1) (v := .int .i64 r) rfl
        have x2 := KX.out.cell (i := 2) (v := .int .i64 d) rfl
        have x3 := KX.out.cell (i := 3) (v := .int .i64 sl) rfl
        have x4 := KX.out.cell (i := 4) (v := .string xv) rfl
        have VI : Hid (VotesIn W3 (.slice (some ⟨b', 0, none⟩) L.length cap) L) := (VB.out.below B3.out).at hcap hmax
        obtain ⟨sf, hsf⟩ : ∃ sf, safeL n A sl xv (sortB (belowL A sl (r, d))).reverse = sf := ⟨_, rfl⟩
        have hse : sf = true ↔ SafeP n L sl xv (r, d) := by rw [← hsf]; exact safe_iff hn7 OK.out.poss HAO.out
        have HSF := Lib.hid hsf
        have HSE := Lib.hid hse
        clear hsf hse
        go_upto_region 13 with (go_at_call 20; refine (safe_main n _ L A r d sl xv _ VI.out hn7 hL HA.out X1.out X2.out X3.out).mono ?_; rw [HSF.out]; rintro e w5 ⟨rfl, b5⟩; have B5 := Lib.hid (bchain B3.out b5); clear b5)
        clear x1 x2 x3 x4 KX VI B3
        cases sf with
        | true =>
          have hsj := HSE.out.1 rfl
          have SF2 : Hid (∀ y ∈ L.take (j + 1), SafeP n L y.sl y.v (vbl y)) := fun y hy => by
            rcases (mem_take_succ HX.out).1 hy with hy | rfl
            · exact SF.out y hy
            · exact hsj
          clear hsj
          go_wp2_with fail
          go_roundg (L.length - (j + 1))
          case measure => omega
          case rel => exact ⟨j + 1, by omega, rfl, by go_num, rfl, SF2.out, B5.out⟩
        | false =>
          have hcw : ((j : Int) < 0) = False := by simp
          have D5 := Lib.hid (VB.out.below B5.out)
          go_wp2_with (go_at_call 22; refine (delete_any b' cap j L _ D5.out hcap hmax hjl).mono ?_; rintro e w6 ⟨rfl, d6, f6⟩; have D6 := Lib.hid d6; have F6 := Lib.hid f6; clear d6 f6)
          have hle : (L.eraseIdx j).length = L.length - 1 := by rw [List.length_eraseIdx, if_pos hjl]
          have HLE := Lib.hid hle
          have hwr := B.out.size
          clear hle
          go_roundg (L.length - 1)
          case measure => omega
          case rel => exact ⟨L.eraseIdx j, HLE.out, OK.out.sub (List.eraseIdx_sublist L j), ⟨_, cap, by rw [HLE.out], by rw [HLE.out]; omega, hmax, fun _ => ⟨b', rfl, hgb, D6.out⟩⟩, Fr.upB (bchain B.out B5.out) F6.out (fun i e => by have e : i = b' := e; omega)⟩
      case neg =>
        have e : j = L.length := by omega
        subst e
        have hall : ∀ y ∈ L, SafeP n L y.sl y.v (vbl y) := fun y hy => SF.out y (by rw [List.take_length]; exact hy)
        have hag := agree_of_safe hn7 OK.out.poss hall
        have HAG := Lib.hid hag
        have VI := Lib.hid (ROW.out.below B2.out).at
        have B3 := Lib.hid (B.out.trans (B2.out.mono B.out.size))
        clear hall hag
        go_wp2_with (first
          | (go_at_call 17; refine (agree_any n _ L _ VI.out hn7 hL).mono ?_; rw [HAG.out]; rintro e w5 ⟨rfl, b5⟩; have B5 := Lib.hid (bchain B3.out b5); clear b5)
          | (go_at_call 8; refine (HW.out _).mono ?_; rintro e w6 ⟨rfl, b6⟩; have B6 := Lib.hid (bchain B5.out b6); clear b6))
        go_returns
        exact ⟨rfl, B6.out⟩
end Go.Proofs.YthkdmpalhdifbaaDoor.chosenAgrees
