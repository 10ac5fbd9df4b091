/- The walk of skaldlaw13.LearnPlays: it returns true, and writes nothing that was there. -/
import Derived.Test.YtnnadpbfidfhoaaLearnV
import Derived.OpenShut
import Derived.Deep.DeepCutAuto
import Derived.Deep.CutBlock
import Derived.Deep.LoopGhost
import Derived.Deep.RegionHeld3
set_option linter.unusedVariables false
set_option linter.unusedSimpArgs false
namespace Go.Proofs.Ytnnadpbfidfhoaa.learnPlays
open Go.RowKit Go.Shelf
set_option maxRecDepth 100000 in
set_option maxHeartbeats 20000000 in
theorem walk (n : Int) (v1 : Value) (L : List Stp) (ask : Int) (w : World) (w0 : (Lit.int .i64 n).wf = true) (hL : StepsIn w v1 L) (w2 : (Lit.int .i64 ask).wf = true) :
    Calls Try.prog 7 #[.int .i64 n, v1, .int .i64 ask] w fun e w' => e = .returned (.bool true) ∧ Below w.heap.size w w' := by
  have HL := Lib.hid hL
  have HASK := Lib.hid (in64_wf w2)
  obtain ⟨A0, cap0, rfl, hcap0, hmax0, hin, hc⟩ := hL
  have HC := Lib.hid hc
  have HIN := Lib.hid hin
  have hml : cap0 ≤ 9223372036854775807 := by unfold maxLen at hmax0; omega
  clear hc hin hmax0 w0 w2
  go_enter Try.func7, Try.ntmps7
  by_cases hn : 1 ≤ n ∧ n ≤ 7
  case neg =>
    have HN := Lib.hid hn
    clear hn
    go_wp2_with (first
      | (go_at_call 20; refine (few_any _ L _ HL.out).mono ?_; rintro e w1 ⟨b, rfl, _, b1⟩; have B1 := Lib.hid b1; clear b1; cases b)
      | (go_at_call 10; refine (works_any _).mono ?_; rintro e wk ⟨rfl, bk⟩)
      | (go_at_call 11; refine (lnew_bad n _ HN.out).mono ?_; rintro e w2 ⟨rfl, b2⟩; have B2 := Lib.hid (bchain B1.out b2); clear b2)
      | (go_at_call 21; refine (rlnew_bad n _ HN.out).mono ?_; rintro e w' ⟨rfl, rfl⟩))
    all_goals
      go_returns
      first | exact ⟨rfl, bchain B2.out bk⟩ | exact ⟨rfl, bchain B1.out bk⟩
  case pos =>
    obtain ⟨N, rfl⟩ : ∃ N : Nat, n = (N : Int) := ⟨n.toNat, by omega⟩
    have hN : 1 ≤ N ∧ N ≤ 7 := by omega
    clear hn
    go_upto_region 2 with (go_at_call 20; refine (few_any _ L _ HL.out).mono ?_; rintro e w1 ⟨b, rfl, hb, b1⟩; have HB1 := Lib.hid hb; have B1 := Lib.hid b1; clear b1 hb; cases b)
    · go_wp2_with (go_at_call 10; refine (works_any _).mono ?_; rintro e wk ⟨rfl, bk⟩)
      go_returns
      exact ⟨rfl, bchain B1.out bk⟩
    go_upto_region 9 with (first
      | (go_at_call 11; refine (lnew_S N _ hN).mono ?_; rintro e w2 ⟨p, m, rfl, t2, hp, hm, b2⟩; have T2 := Lib.hid t2; have B2 := Lib.hid (bchain B1.out b2); clear t2 b2)
      | (go_at_call 21; refine (rlnew_yes N _ hN).mono ?_; rintro e w3 ⟨q, rfl, t3, hq, b3⟩; have R3 := Lib.hid t3; have T3 := Lib.hid (T2.out.below b3); have B3 := Lib.hid (bchain B2.out b3); clear t3 b3))
    have hpq : w1.heap.size ≤ q := by have := T2.out.lt; omega
    have hsz := B1.out.size
    go_wp2_with fail
    go_loopg [7, 9, 11, 12, 48] L.length (fun g a r oa wa c wr => ∃ (i p m q : Nat) (v : Value) (s : LSt) (R : KL) (B0 : Nat) (σ : Option LSt), i ≤ L.length ∧ g = L.length - i ∧ c = .int .i64 i ∧ a = .pointer (some ⟨p, 0, none⟩) ∧ r = .pointer (some ⟨q, 0, none⟩) ∧
      LS wr p m s ∧ RLAt wr q v s R ∧ OU B0 wr oa wa σ ∧ B0 ≤ p ∧ B0 ≤ m ∧ B0 ≤ q ∧ w.heap.size ≤ B0 ∧ Below w.heap.size w wr)
    case atStart => exact ⟨0, p, m, q, _, _, [], w1.heap.size, none, by omega, by omega, rfl, rfl, rfl, T3.out, R3.out, ⟨rfl, rfl⟩, hp, hm, hpq, hsz, B3.out⟩
    case round =>
      clear T2 T3 B2 B3 R3 hp hm hq hpq hsz
      obtain ⟨i, p, m, q, v, s, R, B0, σ, hi, rfl, rfl, rfl, rfl, ht, hr, ho, hp, hm, hq, hB0, hB⟩ := hrel
      have T := Lib.hid ht
      have RR := Lib.hid hr
      have O := Lib.hid ho
      have B := Lib.hid hB
      clear ht hr ho hB
      by_cases hlt : i < L.length
      case neg =>
        have e : i = L.length := by omega
        subst e
        go_wp2_with (go_at_call 10; refine (works_any _).mono ?_; rintro e wk ⟨rfl, bk⟩)
        go_returns
        exact ⟨rfl, bchain B.out bk⟩
      case pos =>
      obtain ⟨b, off, rfl, hb, hcells⟩ := HC.out (by omega)
      obtain ⟨⟨x, nd, k, r1, d1, sv⟩, hs⟩ : ∃ s, L[i]? = some s := ⟨_, List.getElem?_eq_getElem hlt⟩
      obtain ⟨q0, q1, q2, q3, q4, q5⟩ := hcells i _ hs
      have ik := (HIN.out _ (List.mem_of_getElem? hs)).2.2.1
      have HKI := Lib.hid ik
      simp only at q0 q1 q2 q3 q4 q5
      have d0 := bcell B.out q0
      have d1' := bcell B.out q1
      have d2 := bcell B.out q2
      have d3 := bcell B.out q3
      have d4 := bcell B.out q4
      have d5 := bcell B.out q5
      clear q0 q1 q2 q3 q4 q5 hs hcells ik
      go_upto_block 2 with fail
      have bw := box_below wr (.cells #[.int .i64 x, .int .i64 nd, .int .i64 k, .int .i64 r1, .int .i64 d1, .string sv] 58)
      have KA := Lib.hid (Blk.new wr 58 #[.int .i64 x, .int .i64 nd, .int .i64 k, .int .i64 r1, .int .i64 d1, .string sv])
      have UA := Lib.hid (T.out.below bw)
      have UR := Lib.hid (RR.out.below bw)
      have UO := Lib.hid (O.out.below bw)
      have BA := Lib.hid (bchain B.out bw)
      have hpl := T.out.lt
      have hql := RR.out.blk.lt
      generalize (wr.alloc (.cells #[.int .i64 x, .int .i64 nd, .int .i64 k, .int .i64 r1, .int .i64 d1, .string sv] 58)) = W1 at *
      obtain ⟨b8, hb8⟩ : ∃ b8, b8 = wr.heap.size := ⟨_, rfl⟩
      rw [← hb8] at KA hpl hql ⊢
      clear hb8 bw T RR O B d0 d1' d2 d3 d4 d5
      have y0 := KA.out.cell (i := 0) (v := .int .i64 x) rfl
      have y1 := KA.out.cell (i := 1) (v := .int .i64 nd) rfl
      have y2 := KA.out.cell (i := 2) (v := .int .i64 k) rfl
      have y3 := KA.out.cell (i := 3) (v := .int .i64 r1) rfl
      have y4 := KA.out.cell (i := 4) (v := .int .i64 d1) rfl
      have y5 := KA.out.cell (i := 5) (v := .string sv) rfl
      go_cut [7, 9, 11, 12] (fun a r oa wa wx => ∃ (p m q : Nat) (v : Value) (s : LSt) (R : KL) (B0 : Nat) (σ : Option LSt), a = .pointer (some ⟨p, 0, none⟩) ∧ r = .pointer (some ⟨q, 0, none⟩) ∧
        LS wx p m s ∧ RLAt wx q v s R ∧ OU B0 wx oa wa σ ∧ B0 ≤ p ∧ B0 ≤ m ∧ B0 ≤ q ∧ w.heap.size ≤ B0 ∧ Below w.heap.size w wx ∧ Blk wx b8 58 #[.int .i64 x, .int .i64 nd, .int .i64 k, .int .i64 r1, .int .i64 d1, .string sv])
      case first =>
        by_cases x0 : x = 0
        · have x0' : ((x : Int) == 0) = true := by simpa using x0
          clear x0
          as_aux_lemma =>
          go_wp2_with (first
            | (go_at_call 12; refine (add_S p m s nd r1 d1 k sv _ UA.out).mono ?_; rintro e w3 ⟨rfl, t3, f3⟩; have T3 := Lib.hid t3; have U3 := Lib.hid ((show RLAt W1 q v s R from UR.out).ofA (show LS W1 p m s from UA.out) f3); have O3 := Lib.hid ((show OU B0 W1 _ _ σ from UO.out).fr f3 (fun i e => by rcases e with e | e <;> omega)); have K3 := Lib.hid ((show Blk W1 b8 58 #[.int .i64 x, .int .i64 nd, .int .i64 k, .int .i64 r1, .int .i64 d1, .string sv] from KA.out).fr f3 (fun e => by rcases e with e | e <;> omega)); have B3 := Lib.hid (Fr.upB BA.out f3 (fun i e => by rcases e with e | e <;> omega)); have y1 := K3.out.cell (i := 1) (v := .int .i64 nd) rfl; have y2 := K3.out.cell (i := 2) (v := .int .i64 k) rfl; have y3 := K3.out.cell (i := 3) (v := .int .i64 r1) rfl; have y4 := K3.out.cell (i := 4) (v := .int .i64 d1) rfl; have y5 := K3.out.cell (i := 5) (v := .string sv) rfl; clear t3 f3)
            | (go_at_call 22; refine (rladd_any q v s R nd r1 d1 k sv _ U3.out).mono ?_; rintro e w4 ⟨rfl, v4, R4, t4, f4⟩; have U4 := Lib.hid t4; have T4 := Lib.hid (T3.out.ofR U3.out f4); have O4 := Lib.hid (O3.out.fr f4 (fun i e => by have e : i = q := e; omega)); have K4 := Lib.hid (K3.out.fr f4 (fun e => by have e : b8 = q := e; omega)); have B4 := Lib.hid (Fr.upB B3.out f4 (fun i e => by have e : i = q := e; omega)); have y1 := K4.out.cell (i := 1) (v := .int .i64 nd) rfl; have y2 := K4.out.cell (i := 2) (v := .int .i64 k) rfl; have y3 := K4.out.cell (i := 3) (v := .int .i64 r1) rfl; have y4 := K4.out.cell (i := 4) (v := .int .i64 d1) rfl; have y5 := K4.out.cell (i := 5) (v := .string sv) rfl; clear t4 f4))
          go_meet
          exact ⟨p, m, q, _, _, _, B0, σ, rfl, rfl, T4.out, U4.out, O4.out, hp, hm, hq, hB0, B4.out, K4.out⟩
        have x0' : ((x : Int) == 0) = false := by simpa using x0
        by_cases x1 : x = 1
        · have x1' : ((x : Int) == 1) = true := by simpa using x1
          clear x1 x0
          as_aux_lemma =>
          go_wp2_with fail
          go_region_held3 (fun W => W.cell? ⟨b8, 2, none⟩ = some (.int .i64 k) ∧ W.cell? ⟨b8, 5, none⟩ = some (.string sv))
            (first | exact ⟨by assumption, by assumption⟩ | go_keep)
            (first
              | (go_at_call 17; refine (learn_S p m s k sv _ UA.out.drew).mono ?_; rintro e w3 ⟨rfl, t3, f3⟩; have T3 := Lib.hid t3; have U3 := Lib.hid ((show RLAt W1.drew q v s R from UR.out.drew).ofA (show LS W1.drew p m s from UA.out.drew) f3); have O3 := Lib.hid ((show OU B0 W1.drew _ _ σ from UO.out.below (Below.refl _ _).drew).fr f3 (fun i e => by rcases e with e | e <;> omega)); have K3 := Lib.hid ((show Blk W1.drew b8 58 #[.int .i64 x, .int .i64 nd, .int .i64 k, .int .i64 r1, .int .i64 d1, .string sv] from KA.out).fr f3 (fun e => by rcases e with e | e <;> omega)); have B3 := Lib.hid (Fr.upB BA.out.drew f3 (fun i e => by rcases e with e | e <;> omega)); have y1 := K3.out.cell (i := 1) (v := .int .i64 nd) rfl; have y2 := K3.out.cell (i := 2) (v := .int .i64 k) rfl; have y3 := K3.out.cell (i := 3) (v := .int .i64 r1) rfl; have y4 := K3.out.cell (i := 4) (v := .int .i64 d1) rfl; have y5 := K3.out.cell (i := 5) (v := .string sv) rfl; clear t3 f3)
              | (go_at_call 23; refine (rllearn_any q v s R k sv _ U3.out).mono ?_; rintro e w4 ⟨rfl, v4, R4, t4, f4⟩; have U4 := Lib.hid t4; have T4 := Lib.hid (T3.out.ofR U3.out f4); have O4 := Lib.hid (O3.out.fr f4 (fun i e => by have e : i = q := e; omega)); have K4 := Lib.hid (K3.out.fr f4 (fun e => by have e : b8 = q := e; omega)); have B4 := Lib.hid (Fr.upB B3.out f4 (fun i e => by have e : i = q := e; omega)); have y1 := K4.out.cell (i := 1) (v := .int .i64 nd) rfl; have y2 := K4.out.cell (i := 2) (v := .int .i64 k) rfl; have y3 := K4.out.cell (i := 3) (v := .int .i64 r1) rfl; have y4 := K4.out.cell (i := 4) (v := .int .i64 d1) rfl; have y5 := K4.out.cell (i := 5) (v := .string sv) rfl; clear t4 f4))
          go_wp2_with fail
          go_meet
          exact ⟨p, m, q, _, _, _, B0, σ, rfl, rfl, T4.out, U4.out, O4.out, hp, hm, hq, hB0, B4.out, K4.out⟩
        have x1' : ((x : Int) == 1) = false := by simpa using x1
        by_cases x2 : x = 2
        · have x2' : ((x : Int) == 2) = true := by simpa using x2
          clear x1 x0 x2
          as_aux_lemma =>
          go_wp2_with fail
          go_region_held3 (fun W => W.cell? ⟨b8, 2, none⟩ = some (.int .i64 k))
            (first | assumption | go_keep)
            (first
              | (go_at_call 18; refine (forget_S p m s k _ UA.out.drew).mono ?_; rintro e w3 ⟨rfl, t3, f3⟩; have T3 := Lib.hid t3; have U3 := Lib.hid ((show RLAt W1.drew q v s R from UR.out.drew).ofA (show LS W1.drew p m s from UA.out.drew) f3); have O3 := Lib.hid ((show OU B0 W1.drew _ _ σ from UO.out.below (Below.refl _ _).drew).fr f3 (fun i e => by rcases e with e | e <;> omega)); have K3 := Lib.hid ((show Blk W1.drew b8 58 #[.int .i64 x, .int .i64 nd, .int .i64 k, .int .i64 r1, .int .i64 d1, .string sv] from KA.out).fr f3 (fun e => by rcases e with e | e <;> omega)); have B3 := Lib.hid (Fr.upB BA.out.drew f3 (fun i e => by rcases e with e | e <;> omega)); have y1 := K3.out.cell (i := 1) (v := .int .i64 nd) rfl; have y2 := K3.out.cell (i := 2) (v := .int .i64 k) rfl; have y3 := K3.out.cell (i := 3) (v := .int .i64 r1) rfl; have y4 := K3.out.cell (i := 4) (v := .int .i64 d1) rfl; have y5 := K3.out.cell (i := 5) (v := .string sv) rfl; clear t3 f3)
              | (go_at_call 24; refine (rlforget_any q v s R k _ U3.out).mono ?_; rintro e w4 ⟨rfl, v4, R4, t4, f4⟩; have U4 := Lib.hid t4; have T4 := Lib.hid (T3.out.ofR U3.out f4); have O4 := Lib.hid (O3.out.fr f4 (fun i e => by have e : i = q := e; omega)); have K4 := Lib.hid (K3.out.fr f4 (fun e => by have e : b8 = q := e; omega)); have B4 := Lib.hid (Fr.upB B3.out f4 (fun i e => by have e : i = q := e; omega)); have y1 := K4.out.cell (i := 1) (v := .int .i64 nd) rfl; have y2 := K4.out.cell (i := 2) (v := .int .i64 k) rfl; have y3 := K4.out.cell (i := 3) (v := .int .i64 r1) rfl; have y4 := K4.out.cell (i := 4) (v := .int .i64 d1) rfl; have y5 := K4.out.cell (i := 5) (v := .string sv) rfl; clear t4 f4))
          go_wp2_with fail
          go_meet
          exact ⟨p, m, q, _, _, _, B0, σ, rfl, rfl, T4.out, U4.out, O4.out, hp, hm, hq, hB0, B4.out, K4.out⟩
        have x2' : ((x : Int) == 2) = false := by simpa using x2
        by_cases x3 : x = 3
        · have x3' : ((x : Int) == 3) = true := by simpa using x3
          clear x1 x0 x2 x3
          as_aux_lemma =>
          go_wp2_with (first
            | (go_at_call 25; refine (lcopy_S p m s _ UA.out).mono ?_; rintro e w3 ⟨p3, m3, rfl, t3, hp3, hm3, b3⟩; have T3 := Lib.hid t3; have A3 := Lib.hid (UA.out.below b3); have U3 := Lib.hid (UR.out.below b3); have B3 := Lib.hid (bchain BA.out b3); have K3 := Lib.hid (KA.out.bel b3); have hw3 := b3.size; clear t3 b3)
            | (go_at_call 26; refine (rlcopy_any q v s R _ U3.out).mono ?_; rintro e w4 ⟨q4, v4, R4, rfl, t4, hq4, b4⟩; have U4 := Lib.hid t4; have T4 := Lib.hid (T3.out.below b4); have A4 := Lib.hid (A3.out.below b4); have V4 := Lib.hid (U3.out.below b4); have B4 := Lib.hid (bchain B3.out b4); have K4 := Lib.hid (K3.out.bel b4); clear t4 b4))
          go_meet
          have h1 := UA.out.lt
          have h2 := UR.out.blk.lt
          have h3 := UR.out.rowlt
          have h4 := BA.out.size
          exact ⟨p3, m3, q4, _, _, _, W1.heap.size, some s, rfl, rfl, T4.out, U4.out, ⟨p, m, q, v, R, rfl, rfl, A4.out, V4.out, h1.1, h1.2, h2, h3⟩, hp3, hm3, by omega, h4, B4.out, K4.out⟩
        have x3' : ((x : Int) == 3) = false := by simpa using x3
        clear x1 x0 x2 x3
        go_wp2_with fail
        go_meet
        exact ⟨p, m, q, _, _, _, B0, σ, rfl, rfl, UA.out, UR.out, UO.out, hp, hm, hq, hB0, BA.out, KA.out⟩
      case rest =>
        clear UA UR UO BA KA y0 y1 y2 y3 y4 y5 hpl hql hp hm hq hB0
        obtain ⟨p, m, q, v, s, R, B0, σ, rfl, rfl, ht, hr, ho, hp, hm, hq, hB0, hB, hk8⟩ := hcut
        obtain ⟨w2, rfl⟩ : ∃ w2 : World, w2 = wc := ⟨_, rfl⟩
        have T := Lib.hid ht
        have RR := Lib.hid hr
        have O := Lib.hid ho
        have B := Lib.hid hB
        have K := Lib.hid hk8
        have y2 := hk8.cell (i := 2) (v := .int .i64 k) rfl
        clear ht hr ho hB hk8
        have tok1 : True := trivial
        have tok2 : True := trivial
        cases σ with
        | none =>
          obtain ⟨rfl, rfl⟩ := O.out
          go_wp2_with (first
            | (go_at_call 27; have _t := tok1; refine (shows_any p m q v s R ask _ T.out RR.out HASK.out).mono ?_; rintro e w3 ⟨rfl, b3⟩; have T3 := Lib.hid (T.out.below b3); have R3 := Lib.hid (RR.out.below b3); have B3 := Lib.hid (bchain B.out b3); have y2 := (K.out.bel b3).cell (i := 2) (v := .int .i64 k) rfl; clear b3 tok1 _t)
            | (go_at_call 27; refine (shows_any p m q v s R k _ T3.out R3.out HKI.out).mono ?_; rintro e w4 ⟨rfl, b4⟩; have T4 := Lib.hid (T3.out.below b4); have R4 := Lib.hid (R3.out.below b4); have B4 := Lib.hid (bchain B3.out b4); clear b4))
          go_roundg (L.length - (i + 1))
          case measure => omega
          case rel => exact ⟨i + 1, p, m, q, v, s, R, B0, none, by omega, by omega, by go_num, rfl, rfl, T4.out, R4.out, ⟨rfl, rfl⟩, hp, hm, hq, hB0, B4.out⟩
        | some s0 =>
          obtain ⟨p0, m0, q0, v0, R0, rfl, rfl, a0, r0, l1, l2, l3, l4⟩ := O.out
          have A0' := Lib.hid a0
          have R0' := Lib.hid r0
          have L4 := Lib.hid l4
          clear a0 r0 l4 O
          go_wp2_with (first
            | (go_at_call 27; have _t := tok1; refine (shows_any p m q v s R ask _ T.out RR.out HASK.out).mono ?_; rintro e w3 ⟨rfl, b3⟩; have T3 := Lib.hid (T.out.below b3); have R3 := Lib.hid (RR.out.below b3); have A3 := Lib.hid (A0'.out.below b3); have Z3 := Lib.hid (R0'.out.below b3); have B3 := Lib.hid (bchain B.out b3); have y2 := (K.out.bel b3).cell (i := 2) (v := .int .i64 k) rfl; clear b3 tok1 _t)
            | (go_at_call 27; have _t := tok2; refine (shows_any p m q v s R k _ T3.out R3.out HKI.out).mono ?_; rintro e w4 ⟨rfl, b4⟩; have T4 := Lib.hid (T3.out.below b4); have R4 := Lib.hid (R3.out.below b4); have A4 := Lib.hid (A3.out.below b4); have Z4 := Lib.hid (Z3.out.below b4); have B4 := Lib.hid (bchain B3.out b4); clear b4 tok2 _t)
            | (go_at_call 27; refine (shows_any p0 m0 q0 v0 s0 R0 ask _ A4.out Z4.out HASK.out).mono ?_; rintro e w5 ⟨rfl, b5⟩; have T5 := Lib.hid (T4.out.below b5); have R5 := Lib.hid (R4.out.below b5); have A5 := Lib.hid (A4.out.below b5); have Z5 := Lib.hid (Z4.out.below b5); have B5 := Lib.hid (bchain B4.out b5); clear b5))
          go_roundg (L.length - (i + 1))
          case measure => omega
          case rel => exact ⟨i + 1, p, m, q, v, s, R, B0, some s0, by omega, by omega, by go_num, rfl, rfl, T5.out, R5.out, ⟨p0, m0, q0, v0, R0, rfl, rfl, A5.out, Z5.out, l1, l2, l3, L4.out⟩, hp, hm, hq, hB0, B5.out⟩
end Go.Proofs.Ytnnadpbfidfhoaa.learnPlays
