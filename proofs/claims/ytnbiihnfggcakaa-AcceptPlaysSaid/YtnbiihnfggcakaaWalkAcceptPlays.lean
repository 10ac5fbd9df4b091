/- The walk of skaldlaw12.AcceptPlays: it returns true, and writes nothing that was there. -/
import Derived.Test.YtnbiihnfggcakaaAccU
import Derived.OpenShut
import Derived.Deep.DeepCutAuto
import Derived.Deep.CutBlock
import Derived.Deep.LoopGhost
import Derived.Deep.RegionHeld3
set_option linter.unusedVariables false
set_option linter.unusedSimpArgs false
namespace Go.Proofs.Ytnbiihnfggcakaa.acceptPlays
open Go.RowKit Go.Shelf
theorem uNew_err {n : Int} : uNew n = none ↔ uNewE n ≠ 0 := by
  unfold uNew uNewE
  split <;> simp
/-- One step. -/
def uStep (σ : Option ASt) (x : Stp) : Option ASt := if x.1 = 0 then uPrS σ x.2.1 x.2.2.1 x.2.2.2.1 else if x.1 = 1 then uAcS σ x.2.1 x.2.2.1 x.2.2.2.1 x.2.2.2.2 else if x.1 = 2 then uFoS σ x.2.2.2.1 else σ

set_option maxRecDepth 100000 in
set_option maxHeartbeats 200000000 in
theorem walk (n : Int) (v1 : Value) (L : List Stp) (ask : Int) (w : World) (w0 : (Lit.int .i64 n).wf = true) (hL : StepsIn w v1 L) (w2 : (Lit.int .i64 ask).wf = true) :
    Calls Try.prog 5 #[.int .i64 n, v1, .int .i64 ask] w fun e w' => e = .returned (.bool true) ∧ Below w.heap.size w w' := by
  have HL := Lib.hid hL
  have HASK := Lib.hid (in64_wf w2)
  obtain ⟨A0, cap0, rfl, hcap0, hmax0, hin, hc⟩ := hL
  have HC := Lib.hid hc
  have HIN := Lib.hid hin
  have hml : cap0 ≤ 9223372036854775807 := by unfold maxLen at hmax0; omega
  clear hc hin hmax0 w0 w2
  have hE := fun (a b c d : Int) (w : World) => eqBal a b c d w
  have hG := eqGBal
  have hE2 := fun (s a b : Int) (v : ByteArray) (t c d : Int) (u : ByteArray) (w : World) => eqEnt s a b v t c d u w
  have hG2 := eqGEnt
  have hee : ∀ p : Int × Ent, entEq p p = true := fun p => (entEq_iff p p).2 rfl
  go_enter Try.func5, Try.ntmps5
  cases hsl : shortB L with
  | false =>
    go_wp2_with (first
      | (go_at_call 12; refine (short_any _ _ _ HL.out).mono ?_; rintro e w' ⟨rfl, rfl⟩)
      | (go_at_call 13; refine (works_any _).mono ?_; rintro e wk ⟨rfl, bk⟩))
    go_returns
    exact ⟨rfl, bk⟩
  | true =>
    have hl80 := shortB_len hsl
    go_upto_region 5 with (first
      | (go_at_call 12; refine (short_any _ _ _ HL.out).mono ?_; rintro e w' ⟨rfl, rfl⟩)
      | (go_at_call 14; refine (u_new n _).mono ?_; rintro e w1 ⟨a, rfl, t1, b1⟩; have TA1 := Lib.hid t1; have B1 := Lib.hid b1; clear t1 b1)
      | (go_at_call 23; refine (ur_new w.heap.size n _ B1.out.size).mono ?_; rintro e w2 ⟨r, rfl, t2, b2⟩; have TR2 := Lib.hid t2; have TA2 := Lib.hid (TA1.out.of_below b2); have B2 := Lib.hid (B1.out.trans (b2.mono B1.out.size)); clear t2 b2))
    go_cut [48] (fun b wx => b = .bool false ∧ w2 = wx)
    case first =>
      rcases TA2.out.isNil with ⟨ea, en⟩ | ⟨p, ea, en⟩
      · rcases TR2.out.isNil with ⟨er, _⟩ | ⟨q, er, en2⟩
        · subst ea er
          clear TA1 TA2 TR2 B1 B2
          go_wp2_with fail
          go_meet
          exact ⟨rfl, rfl⟩
        · rw [en] at en2; exact absurd en2 (by decide)
      · rcases TR2.out.isNil with ⟨er, en2⟩ | ⟨q, er, en2⟩
        · rw [en2] at en; exact absurd en (by decide)
        · subst ea er
          clear TA1 TA2 TR2 B1 B2
          go_wp2_with fail
          go_meet
          exact ⟨rfl, rfl⟩
    case rest =>
      obtain ⟨rfl, rfl⟩ := hcut
      have tok1 : True := trivial
      have tok2 : True := trivial
      go_wp2_with fail
      go_loopg [7, 9, 11] L.length (fun g a r c wr => ∃ (i : Nat) (σ : Option ASt), i ≤ L.length ∧ g = L.length - i ∧ c = .int .i64 i ∧ AU w.heap.size wr a σ ∧ RU w.heap.size wr r σ ∧ Below w.heap.size w wr)
      case atStart => exact ⟨0, _, by omega, rfl, rfl, TA2.out, TR2.out, B2.out⟩
      case round =>
        clear TA1 TA2 TR2 B1 B2
        obtain ⟨i, σ, hi, rfl, rfl, ta, tr, hB⟩ := hrel
        have TA := Lib.hid ta
        have TR := Lib.hid tr
        clear ta tr
        by_cases hlt : i < L.length
        · obtain ⟨b, off, rfl, hb, hcells⟩ := HC.out (by omega)
          obtain ⟨⟨x, r1, d1, k, s⟩, hs⟩ : ∃ s, L[i]? = some s := ⟨_, List.getElem?_eq_getElem hlt⟩
          obtain ⟨q0, q1, q2, q3, q4⟩ := hcells i _ hs
          have ik := (HIN.out _ (List.mem_of_getElem? hs)).2.2.2.1
          have HK := Lib.hid ik
          simp only at q0 q1 q2 q3 q4
          have d0 := bcell hB q0
          have d1' := bcell hB q1
          have d2 := bcell hB q2
          have d3 := bcell hB q3
          have d4 := bcell hB q4
          clear q0 q1 q2 q3 q4 hs hcells ik
          go_upto_block 2 with fail
          have bw := box_below wr (.cells #[.int .i64 x, .int .i64 r1, .int .i64 d1, .int .i64 k, .string s] 36)
          have KA := Lib.hid (Blk.new wr 36 #[.int .i64 x, .int .i64 r1, .int .i64 d1, .int .i64 k, .string s])
          have UA := Lib.hid (TA.out.of_below bw)
          have UR := Lib.hid (TR.out.of_below bw)
          have BA := Lib.hid (hB.trans (bw.mono hB.size))
          have hB1 := BA.out.size
          generalize (wr.alloc (.cells #[.int .i64 x, .int .i64 r1, .int .i64 d1, .int .i64 k, .string s] 36)) = W1 at *
          obtain ⟨b8, hb8⟩ : ∃ b8, b8 = wr.heap.size := ⟨_, rfl⟩
          rw [← hb8] at KA ⊢
          clear hb8 bw TA TR hB d0 d1' d2 d3 d4
          have y0 := KA.out.cell (i := 0) (v := .int .i64 x) rfl
          have y1 := KA.out.cell (i := 1) (v := .int .i64 r1) rfl
          have y2 := KA.out.cell (i := 2) (v := .int .i64 d1) rfl
          have y3 := KA.out.cell (i := 3) (v := .int .i64 k) rfl
          have y4 := KA.out.cell (i := 4) (v := .string s) rfl
          go_cut [7, 9] (fun a r wx => ∃ σ' : Option ASt, AU w.heap.size wx a σ' ∧ RU w.heap.size wx r σ' ∧ Blk wx b8 36 #[.int .i64 x, .int .i64 r1, .int .i64 d1, .int .i64 k, .string s] ∧ Below w.heap.size w wx)
          case first =>
            by_cases x0 : x = 0
            · have x0' : ((x : Int) == 0) = true := by simpa using x0
              clear x0
              go_wp2_with (first
                | (go_at_call 18; refine (u_promise w.heap.size _ σ _ r1 d1 k UA.out hB1).mono ?_; rintro e w3 ⟨v3, rfl, r3, t3, ku3, rr3⟩; have R3 := Lib.hid r3; clear r3; have B3 := Lib.hid (BA.out.trans ku3.bel); have K3 := Lib.hid (ku3.stp _ _ KA.out); have U3 := Lib.hid (rr3 _ _ UR.out); have T3 := Lib.hid t3; have y1 := K3.out.cell (i := 1) (v := .int .i64 r1) rfl; have y2 := K3.out.cell (i := 2) (v := .int .i64 d1) rfl; have y3 := K3.out.cell (i := 3) (v := .int .i64 k) rfl; have y4 := K3.out.cell (i := 4) (v := .string s) rfl; have hB3 := B3.out.size; clear t3 rr3 ku3)
                | (go_at_call 24; refine (ur_promise w.heap.size _ σ _ r1 d1 k U3.out hB3).mono ?_; rintro e w4 ⟨v4, rfl, r4, t4, ku4, aa4⟩; have R4 := Lib.hid r4; have R34 := Lib.hid (ku4.row _ _ _ R3.out); clear r4; have B4 := Lib.hid (B3.out.trans ku4.bel); have K4 := Lib.hid (ku4.stp _ _ K3.out); have T4 := Lib.hid (aa4 _ _ T3.out); have U4 := Lib.hid t4; have y1 := K4.out.cell (i := 1) (v := .int .i64 r1) rfl; have y2 := K4.out.cell (i := 2) (v := .int .i64 d1) rfl; have y3 := K4.out.cell (i := 3) (v := .int .i64 k) rfl; have y4 := K4.out.cell (i := 4) (v := .string s) rfl; clear t4 aa4 ku4)
                | (go_at_call 25; refine (same_any _ _ _ _ _ _ _ R34.out R4.out (uPrL_len w.heap.size _ σ _ UA.out r1 d1 k)).mono ?_; rintro e w5 ⟨he, b5⟩; rw [decide_eq_true rfl] at he; subst he; have T5 := Lib.hid (T4.out.of_below b5); have U5 := Lib.hid (U4.out.of_below b5); have K5 := Lib.hid (K4.out.bel b5); have B5 := Lib.hid (B4.out.trans (b5.mono B4.out.size)); clear b5))
              go_meet
              exact ⟨_, T5.out, U5.out, K5.out, B5.out⟩
            have x0' : ((x : Int) == 0) = false := by simpa using x0
            by_cases x1 : x = 1
            · have x1' : ((x : Int) == 1) = true := by simpa using x1
              clear x1 x0
              go_wp2_with fail
              go_region_held3 (fun W => W.cell? ⟨b8, 1, none⟩ = some (.int .i64 r1) ∧ W.cell? ⟨b8, 2, none⟩ = some (.int .i64 d1) ∧ W.cell? ⟨b8, 3, none⟩ = some (.int .i64 k) ∧ W.cell? ⟨b8, 4, none⟩ = some (.string s))
                (first | exact ⟨by assumption, by assumption, by assumption, by assumption⟩ | go_keep)
                (first
                  | (go_at_call 19; refine (u_accept w.heap.size _ σ _ r1 d1 k s UA.out.drew hB1).mono ?_; rintro e w3 ⟨rfl, t3, ku3, rr3⟩; have B3 := Lib.hid (BA.out.trans ku3.drew.bel); have K3 := Lib.hid (ku3.drew.stp _ _ KA.out); have U3 := Lib.hid (rr3 _ _ UR.out.drew); have T3 := Lib.hid t3; have y1 := K3.out.cell (i := 1) (v := .int .i64 r1) rfl; have y2 := K3.out.cell (i := 2) (v := .int .i64 d1) rfl; have y3 := K3.out.cell (i := 3) (v := .int .i64 k) rfl; have y4 := K3.out.cell (i := 4) (v := .string s) rfl; have hB3 := B3.out.size; clear t3 rr3 ku3)
                  | (go_at_call 26; refine (ur_accept w.heap.size _ σ _ r1 d1 k s U3.out hB3).mono ?_; rintro e w4 ⟨rfl, t4, ku4, aa4⟩; have B4 := Lib.hid (B3.out.trans ku4.bel); have K4 := Lib.hid (ku4.stp _ _ K3.out); have T4 := Lib.hid (aa4 _ _ T3.out); have U4 := Lib.hid t4; have y1 := K4.out.cell (i := 1) (v := .int .i64 r1) rfl; have y2 := K4.out.cell (i := 2) (v := .int .i64 d1) rfl; have y3 := K4.out.cell (i := 3) (v := .int .i64 k) rfl; have y4 := K4.out.cell (i := 4) (v := .string s) rfl; clear t4 aa4 ku4))
              go_wp2_with fail
              go_meet
              exact ⟨_, T4.out, U4.out, K4.out, B4.out⟩
            have x1' : ((x : Int) == 1) = false := by simpa using x1
            by_cases x2 : x = 2
            · have x2' : ((x : Int) == 2) = true := by simpa using x2
              clear x1 x0 x2
              go_wp2_with fail
              go_region_held3 (fun W => W.cell? ⟨b8, 3, none⟩ = some (.int .i64 k))
                (first | assumption | go_keep)
                (first
                  | (go_at_call 20; refine (u_forget w.heap.size _ σ _ k UA.out.drew hB1).mono ?_; rintro e w3 ⟨rfl, t3, ku3, rr3⟩; have B3 := Lib.hid (BA.out.trans ku3.drew.bel); have K3 := Lib.hid (ku3.drew.stp _ _ KA.out); have U3 := Lib.hid (rr3 _ _ UR.out.drew); have T3 := Lib.hid t3; have y1 := K3.out.cell (i := 1) (v := .int .i64 r1) rfl; have y2 := K3.out.cell (i := 2) (v := .int .i64 d1) rfl; have y3 := K3.out.cell (i := 3) (v := .int .i64 k) rfl; have y4 := K3.out.cell (i := 4) (v := .string s) rfl; have hB3 := B3.out.size; clear t3 rr3 ku3)
                  | (go_at_call 27; refine (ur_forget w.heap.size _ σ _ k U3.out hB3).mono ?_; rintro e w4 ⟨rfl, t4, ku4, aa4⟩; have B4 := Lib.hid (B3.out.trans ku4.bel); have K4 := Lib.hid (ku4.stp _ _ K3.out); have T4 := Lib.hid (aa4 _ _ T3.out); have U4 := Lib.hid t4; have y1 := K4.out.cell (i := 1) (v := .int .i64 r1) rfl; have y2 := K4.out.cell (i := 2) (v := .int .i64 d1) rfl; have y3 := K4.out.cell (i := 3) (v := .int .i64 k) rfl; have y4 := K4.out.cell (i := 4) (v := .string s) rfl; clear t4 aa4 ku4))
              go_wp2_with fail
              go_meet
              exact ⟨_, T4.out, U4.out, K4.out, B4.out⟩
            have x2' : ((x : Int) == 2) = false := by simpa using x2
            by_cases x3 : x = 3
            · have x3' : ((x : Int) == 3) = true := by simpa using x3
              clear x1 x0 x2 x3
              go_wp2_with (first
                | (go_at_call 28; refine (u_copy w.heap.size _ σ _ UA.out hB1).mono ?_; rintro e w3 ⟨a3, rfl, t3, ku3, rr3⟩; have B3 := Lib.hid (BA.out.trans ku3.bel); have K3 := Lib.hid (ku3.stp _ _ KA.out); have U3 := Lib.hid (rr3 _ _ UR.out); have T3 := Lib.hid t3; have y1 := K3.out.cell (i := 1) (v := .int .i64 r1) rfl; have y2 := K3.out.cell (i := 2) (v := .int .i64 d1) rfl; have y3 := K3.out.cell (i := 3) (v := .int .i64 k) rfl; have y4 := K3.out.cell (i := 4) (v := .string s) rfl; have hB3 := B3.out.size; clear t3 rr3 ku3)
                | (go_at_call 29; refine (ur_copy w.heap.size _ σ _ U3.out hB3).mono ?_; rintro e w4 ⟨a4, rfl, t4, ku4, aa4⟩; have B4 := Lib.hid (B3.out.trans ku4.bel); have K4 := Lib.hid (ku4.stp _ _ K3.out); have T4 := Lib.hid (aa4 _ _ T3.out); have U4 := Lib.hid t4; have y1 := K4.out.cell (i := 1) (v := .int .i64 r1) rfl; have y2 := K4.out.cell (i := 2) (v := .int .i64 d1) rfl; have y3 := K4.out.cell (i := 3) (v := .int .i64 k) rfl; have y4 := K4.out.cell (i := 4) (v := .string s) rfl; clear t4 aa4 ku4))
              go_meet
              exact ⟨_, T4.out, U4.out, K4.out, B4.out⟩
            have x3' : ((x : Int) == 3) = false := by simpa using x3
            clear x1 x0 x2 x3
            go_wp2_with fail
            go_meet
            exact ⟨_, UA.out, UR.out, KA.out, BA.out⟩
          case rest =>
            clear UA UR KA BA y0 y1 y2 y3 y4 hB1
            obtain ⟨σ2, ta, tr, ka, hb2⟩ := hcut
            obtain ⟨w2, rfl⟩ : ∃ w2 : World, w2 = wc := ⟨_, rfl⟩
            have TA2 := Lib.hid ta
            have TR2 := Lib.hid tr
            have K2 := Lib.hid ka
            have B2 := Lib.hid hb2
            have y3 := ka.cell (i := 3) (v := .int .i64 k) rfl
            clear ta tr ka hb2
            obtain ⟨σ, rfl⟩ : ∃ σ : Option ASt, σ = σ2 := ⟨_, rfl⟩
            obtain ⟨⟨⟨x1, e1, e2, e3⟩, ok⟩, hu⟩ : ∃ t, uAcc σ k = t := ⟨_, rfl⟩
            obtain ⟨⟨g1, g2⟩, hp⟩ : ∃ t, uBal σ = t := ⟨_, rfl⟩
            obtain ⟨bs, hbs⟩ : ∃ t, uBase σ = t := ⟨_, rfl⟩
            have HU := Lib.hid hu
            have HP := Lib.hid hp
            have HBS := Lib.hid hbs
            have he1 := hee (x1, e1, e2, e3)
            clear hu hp hbs
            have tokA : True := trivial
            have tokR : True := trivial
            have tokS : True := trivial
            go_wp2_with (first
              | (go_at_call 22; refine (u_accepted w.heap.size _ σ _ k HK.out x1 e1 e2 e3 ok HU.out TA2.out).mono ?_; rintro e w3 ⟨rfl, b3'⟩; have b3 := b3'.alloc b3'.size (.cells #[.int .i64 x1, .int .i64 e1, .int .i64 e2, .string e3] 43); have TA3 := Lib.hid (TA2.out.of_below b3); have TR3 := Lib.hid (TR2.out.of_below b3); have B3 := Lib.hid (B2.out.trans (b3.mono B2.out.size)); have y2 := (K2.out.bel b3).cell (i := 3) (v := .int .i64 k) rfl; have X3 := Lib.hid (Blk.new w3 43 #[.int .i64 x1, .int .i64 e1, .int .i64 e2, .string e3]); clear b3 b3')
              | (go_at_call 30; refine (ur_accepted w.heap.size _ σ _ k x1 e1 e2 e3 ok HU.out TR3.out).mono ?_; rintro e w4 ⟨rfl, b4'⟩; have b4 := b4'.alloc b4'.size (.cells #[.int .i64 x1, .int .i64 e1, .int .i64 e2, .string e3] 43); have TA4 := Lib.hid (TA3.out.of_below b4); have TR4 := Lib.hid (TR3.out.of_below b4); have B4 := Lib.hid (B3.out.trans (b4.mono B3.out.size)); have X4 := Lib.hid (X3.out.bel b4); have z0 := X4.out.cell (i := 0) (v := .int .i64 x1) rfl; have z1 := X4.out.cell (i := 1) (v := .int .i64 e1) rfl; have z2 := X4.out.cell (i := 2) (v := .int .i64 e2) rfl; have z3 := X4.out.cell (i := 3) (v := .string e3) rfl; clear b4 b4')
              | (go_at_call 15; refine (u_promised w.heap.size _ σ _ g1 g2 HP.out TA4.out).mono ?_; rintro e w5 ⟨rfl, b5⟩; have TA5 := Lib.hid (TA4.out.of_below b5); have TR5 := Lib.hid (TR4.out.of_below b5); have B5 := Lib.hid (B4.out.trans (b5.mono B4.out.size)); clear b5)
              | (go_at_call 31; refine (ur_promised w.heap.size _ σ _ g1 g2 HP.out TR5.out).mono ?_; rintro e w6 ⟨rfl, b6⟩; have TA6 := Lib.hid (TA5.out.of_below b6); have TR6 := Lib.hid (TR5.out.of_below b6); have B6 := Lib.hid (B5.out.trans (b6.mono B5.out.size)); clear b6)
              | (go_at_call 17; refine (u_base w.heap.size _ σ _ bs HBS.out TA6.out).mono ?_; rintro e w' ⟨rfl, rfl⟩)
              | (go_at_call 32; refine (ur_base w.heap.size _ σ _ bs HBS.out TR6.out).mono ?_; rintro e w' ⟨rfl, rfl⟩)
              | (go_at_call 16; have _t := tokA; refine (u_list w.heap.size _ σ _ 0 TA6.out).mono ?_; rintro e w7 ⟨v7, rfl, r7, b7⟩; have TA7 := Lib.hid (TA6.out.of_below b7); have TR7 := Lib.hid (TR6.out.of_below b7); have B7 := Lib.hid (B6.out.trans (b7.mono B6.out.size)); have R7 := Lib.hid r7; clear r7 b7 tokA)
              | (go_at_call 33; have _t := tokR; refine (ur_list w.heap.size _ σ _ 0 TR7.out).mono ?_; rintro e w8 ⟨v8, rfl, r8, b8⟩; have TA8 := Lib.hid (TA7.out.of_below b8); have TR8 := Lib.hid (TR7.out.of_below b8); have B8 := Lib.hid (B7.out.trans (b8.mono B7.out.size)); have R8 := Lib.hid r8; have Q8 := Lib.hid (R7.out.below b8); clear r8 b8 tokR)
              | (go_at_call 25; have _t := tokS; refine (same_any _ _ _ _ _ _ _ Q8.out R8.out (uList_len w.heap.size _ σ _ TA8.out _)).mono ?_; rintro e w9 ⟨he, b9⟩; rw [decide_eq_true rfl] at he; subst he; have TA9 := Lib.hid (TA8.out.of_below b9); have TR9 := Lib.hid (TR8.out.of_below b9); have B9 := Lib.hid (B8.out.trans (b9.mono B8.out.size)); clear b9 tokS)
              | (go_at_call 16; refine (u_list w.heap.size _ σ _ ask TA9.out).mono ?_; rintro e w10 ⟨v10, rfl, r10, b10⟩; have TA10 := Lib.hid (TA9.out.of_below b10); have TR10 := Lib.hid (TR9.out.of_below b10); have B10 := Lib.hid (B9.out.trans (b10.mono B9.out.size)); have R10 := Lib.hid r10; clear r10 b10)
              | (go_at_call 33; refine (ur_list w.heap.size _ σ _ ask TR10.out).mono ?_; rintro e w11 ⟨v11, rfl, r11, b11⟩; have TA11 := Lib.hid (TA10.out.of_below b11); have TR11 := Lib.hid (TR10.out.of_below b11); have B11 := Lib.hid (B10.out.trans (b11.mono B10.out.size)); have R11 := Lib.hid r11; have Q11 := Lib.hid (R10.out.below b11); clear r11 b11)
              | (go_at_call 25; refine (same_any _ _ _ _ _ _ _ Q11.out R11.out (uList_len w.heap.size _ σ _ TA11.out _)).mono ?_; rintro e w12 ⟨he, b12⟩; rw [decide_eq_true rfl] at he; subst he; have TA12 := Lib.hid (TA11.out.of_below b12); have TR12 := Lib.hid (TR11.out.of_below b12); have B12 := Lib.hid (B11.out.trans (b12.mono B11.out.size)); clear b12))
            go_roundg (L.length - (i + 1))
            case measure => omega
            case rel => exact ⟨i + 1, σ, by omega, rfl, by go_num, TA12.out, TR12.out, B12.out⟩
        · have e : i = L.length := by omega
          subst e
          obtain ⟨w2, rfl⟩ : ∃ w2 : World, w2 = wr := ⟨_, rfl⟩
          have TA2 := TA
          have TR2 := TR
          have B2 := Lib.hid hB
          obtain ⟨⟨⟨x1, e1, e2, e3⟩, ok⟩, hu⟩ : ∃ t, uAcc σ ask = t := ⟨_, rfl⟩
          have HU := Lib.hid hu
          have he1 := hee (x1, e1, e2, e3)
          clear hu TA TR hB
          go_wp2_with (first
            | (go_at_call 22; refine (u_accepted w.heap.size _ σ _ ask HASK.out x1 e1 e2 e3 ok HU.out TA2.out).mono ?_; rintro e w3 ⟨rfl, b3'⟩; have b3 := b3'.alloc b3'.size (.cells #[.int .i64 x1, .int .i64 e1, .int .i64 e2, .string e3] 43); have TA3 := Lib.hid (TA2.out.of_below b3); have TR3 := Lib.hid (TR2.out.of_below b3); have B3 := Lib.hid (B2.out.trans (b3.mono B2.out.size)); have X3 := Lib.hid (Blk.new w3 43 #[.int .i64 x1, .int .i64 e1, .int .i64 e2, .string e3]); clear b3 b3')
            | (go_at_call 30; refine (ur_accepted w.heap.size _ σ _ ask x1 e1 e2 e3 ok HU.out TR3.out).mono ?_; rintro e w4 ⟨rfl, b4'⟩; have b4 := b4'.alloc b4'.size (.cells #[.int .i64 x1, .int .i64 e1, .int .i64 e2, .string e3] 43); have TA4 := Lib.hid (TA3.out.of_below b4); have TR4 := Lib.hid (TR3.out.of_below b4); have B4 := Lib.hid (B3.out.trans (b4.mono B3.out.size)); have X4 := Lib.hid (X3.out.bel b4); have z0 := X4.out.cell (i := 0) (v := .int .i64 x1) rfl; have z1 := X4.out.cell (i := 1) (v := .int .i64 e1) rfl; have z2 := X4.out.cell (i := 2) (v := .int .i64 e2) rfl; have z3 := X4.out.cell (i := 3) (v := .string e3) rfl; clear b4 b4')
            | (go_at_call 13; refine (works_any _).mono ?_; rintro e wk ⟨rfl, bk⟩; have BK := Lib.hid (B4.out.trans (bk.mono B4.out.size)); clear bk))
          go_returns
          exact ⟨rfl, BK.out⟩
end Go.Proofs.Ytnbiihnfggcakaa.acceptPlays
