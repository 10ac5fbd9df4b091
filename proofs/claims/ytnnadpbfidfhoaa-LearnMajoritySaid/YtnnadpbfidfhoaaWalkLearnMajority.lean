/- The walk of skaldlaw13.LearnMajority: it returns true, and writes nothing that was there. -/
import Derived.Test.YtnnadpbfidfhoaaLearnM
import Derived.OpenShut
import Derived.Deep.DeepCutAuto
import Derived.Deep.CutBlock
import Derived.Deep.LoopGhost
import Derived.Deep.RegionHeld3
set_option linter.unusedVariables false
set_option linter.unusedSimpArgs false
namespace Go.Proofs.Ytnnadpbfidfhoaa.learnMajority
open Go.RowKit Go.Shelf
theorem remN (y n a : Nat) (h : (y : Int) % (n : Int) = (a : Int)) : (y : Int).tmod (n : Int) = (a : Int) := by rw [Int.tmod_eq_emod_of_nonneg (by omega)]; exact h
set_option maxRecDepth 100000 in
set_option maxHeartbeats 20000000 in
theorem walk (x : Int) (v1 : Value) (zs : List Int) (y z : Int) (sv : ByteArray) (w : World) (w0 : (Lit.int .u8 x).wf = true) (hL : BytesIn w v1 zs) (w2 : (Lit.int .u16 y).wf = true) (w3 : (Lit.int .u32 z).wf = true) (w4 : sv.size ≤ maxLen) :
    Calls Try.prog 3 #[.int .u8 x, v1, .int .u16 y, .int .u32 z, .string sv] w fun e w' => e = .returned (.bool true) ∧ Below w.heap.size w w' := by
  obtain ⟨x, hx256, rfl⟩ := u8_nat w0
  obtain ⟨y, hy16, rfl⟩ := u16_nat w2
  obtain ⟨z, hz32, rfl⟩ := u32_nat w3
  obtain ⟨A0, cap0, rfl, hcap0, hmax0, hin, hc⟩ := hL
  have HC := Lib.hid hc
  have HIN := Lib.hid hin
  have hml : cap0 ≤ 9223372036854775807 := by unfold maxLen at hmax0; omega
  have hsm : sv.size ≤ 9223372036854775807 := by unfold maxLen at w4; omega
  clear hc hin hmax0 w0 w2 w3 w4
  go_enter Try.func3, Try.ntmps3
  by_cases hlong : 1000 < sv.size
  · have hlong' : (1000 : Int) < (sv.size : Int) := by omega
    go_wp2_with (first
      | (go_at_call 10; refine (works_any _).mono ?_; rintro e wk ⟨rfl, bk⟩))
    go_returns
    exact ⟨rfl, bk⟩
  have hshort : (sv.size : Int) ≤ 1000 := by omega
  clear hlong
  obtain ⟨n, hn⟩ : ∃ n : Nat, n = 1 + x % 7 := ⟨_, rfl⟩
  have hn7 : 1 ≤ n ∧ n ≤ 7 := by omega
  have hxn : (1 : Int) + (x : Int) % 7 = (n : Int) := by omega
  clear hn
  obtain ⟨k, hk⟩ : ∃ k : Nat, k = y % 4096 := ⟨_, rfl⟩
  have hk4 : (0 : Int) ≤ (k : Int) ∧ (k : Int) < 4096 := by omega
  have hyk : (y : Int) % 4096 = (k : Int) := by omega
  clear hk
  obtain ⟨r, hr⟩ : ∃ r : Nat, r = 1 + z % 1073741824 := ⟨_, rfl⟩
  have hr30 : (1 : Int) ≤ (r : Int) ∧ (r : Int) ≤ 1073741824 := by omega
  have hzr : (1 : Int) + (z : Int) % 1073741824 = (r : Int) := by omega
  clear hr
  obtain ⟨d, hd⟩ : ∃ d : Nat, d = z % n := ⟨_, rfl⟩
  have hdn : (0 : Int) ≤ (d : Int) ∧ (d : Int) < (n : Int) := by
    have : d < n := by rw [hd]; exact Nat.mod_lt _ (by omega)
    omega
  have hzd : (z : Int).tmod (n : Int) = (d : Int) := remN z n d (by rw [hd]; exact (Int.natCast_emod z n).symm)
  clear hd
  obtain ⟨N, hN⟩ : ∃ N : Nat, N = min zs.length 30 := ⟨_, rfl⟩
  have hN1 : N ≤ zs.length ∧ N ≤ 30 := by omega
  have hN2 : min (zs.length : Int) 30 = (N : Int) := by omega
  clear hN
  go_upto_region 8 with (first
    | (go_at_call 11; refine (lnew_S n _ hn7).mono ?_; rintro e w1 ⟨p, m, rfl, t1, hp, hm, b1⟩; have T1 := Lib.hid t1; have B1 := Lib.hid b1; clear t1 b1))
  have bw := box_below w1 (.cells #[.int .i64 (r : Int), .int .i64 (d : Int)] 31)
  have KA := Lib.hid (Blk.new w1 31 #[.int .i64 (r : Int), .int .i64 (d : Int)])
  have hpb := T1.out.lt
  have T2 := Lib.hid (T1.out.below bw)
  have B2 := Lib.hid (bchain B1.out bw)
  generalize (w1.alloc (.cells #[.int .i64 (r : Int), .int .i64 (d : Int)] 31)) = W2 at *
  obtain ⟨pb, hpbe⟩ : ∃ pb, pb = w1.heap.size := ⟨_, rfl⟩
  rw [← hpbe] at KA hpb ⊢
  clear hpbe bw T1 B1
  go_wp2_with fail
  go_loopg [16, 17, 63] N (fun q u v c wr => ∃ (i set : Nat) (ch : Bool) (K : KL), i ≤ N ∧ q = N - i ∧ u = .int .u64 set ∧ v = .bool ch ∧ c = .int .i64 i ∧ LS wr p m ⟨n, 0, K⟩ ∧ Mj n r d k sv set ch K ∧ Blk wr pb 31 #[.int .i64 (r : Int), .int .i64 (d : Int)] ∧ Below w.heap.size w wr)
  case atStart => exact ⟨0, 0, false, [], by omega, by omega, rfl, rfl, rfl, T2.out, ⟨Nat.pow_pos (by decide), (maj_zero n).symm, .inl ⟨rfl, rfl⟩⟩, KA.out, B2.out⟩
  case round =>
    clear T2 B2 KA
    obtain ⟨i, set, ch, K, hi, rfl, rfl, rfl, rfl, ht, hw, hk, hB⟩ := hrel
    have T := Lib.hid ht
    have MJ := Lib.hid hw
    have KB := Lib.hid hk
    have B := Lib.hid hB
    clear ht hw hk
    by_cases hlt : i < N
    · have hlt' : (i : Int) < (N : Int) := by omega
      obtain ⟨b, off, rfl, hb, hcells⟩ := HC.out (by omega)
      obtain ⟨yy, hs⟩ : ∃ s, zs[i]? = some s := ⟨_, List.getElem?_eq_getElem (by omega)⟩
      have q0 := hcells i _ hs
      obtain ⟨ix, iy⟩ := HIN.out _ (List.mem_of_getElem? hs)
      obtain ⟨yn, rfl⟩ := Int.eq_ofNat_of_zero_le ix
      have d0 := bcell hB q0
      clear q0 hs hcells ix
      obtain ⟨a, ha⟩ : ∃ a : Nat, a = yn % n := ⟨_, rfl⟩
      have han : a < n := by rw [ha]; exact Nat.mod_lt _ (by omega)
      have hya : (yn : Int).tmod (n : Int) = (a : Int) := remN yn n a (by rw [ha]; exact (Int.natCast_emod yn n).symm)
      clear ha
      go_upto_region 14 with fail
      have hv := bitorN hn7 MJ.out.1 han
      rw [hv]
      clear hv
      have hvl0 := bit_ltN MJ.out.1 han
      obtain ⟨L2, hr2, hm2, f1, f2, f3, f4, f5, f6, f7⟩ := MJ.out.step hn7 han hr30 hdn hk4 (by omega)
      obtain ⟨av, hav⟩ : ∃ av : Nat, av = set ||| 2 ^ a := ⟨_, rfl⟩
      rw [← hav] at hvl0 hr2 hm2 f1 f2 f5 f6 f7 ⊢
      have HVL := Lib.hid hvl0
      have HR := Lib.hid hr2
      have HM := Lib.hid hm2
      have F1 := Lib.hid f1
      have F2 := Lib.hid f2
      have F3 := Lib.hid f3
      have F4 := Lib.hid f4
      have F5 := Lib.hid f5
      have F6 := Lib.hid f6
      have F7 := Lib.hid f7
      clear hav hvl0 hr2 hm2 f1 f2 f3 f4 f5 f6 f7
      go_upto_block 2 with fail
      go_cut [21] (fun v wx => v = .int .i64 (pop av : Int) ∧ wr = wx)
      case first =>
        go_wp2_with fail
        go_loopg [21, 76] n (fun q v c wx => ∃ (j : Nat), j ≤ n ∧ q = n - j ∧ v = .int .i64 (cntB av j : Int) ∧ c = .int .i64 j ∧ wr = wx)
        case atStart => exact ⟨0, by omega, by omega, rfl, rfl, rfl⟩
        case round =>
          obtain ⟨j, hj, rfl, rfl, rfl, rfl⟩ := hrel
          by_cases hjn : j < n
          · have hjn' : (j : Int) < (n : Int) := by omega
            go_wp2_with fail
            go_roundg (n - (j + 1))
            case measure => omega
            case rel => exact ⟨j + 1, by omega, rfl, by rw [cnt_step (x := av) (j := j) (Nat.lt_of_lt_of_le HVL.out (Nat.le_trans (Nat.pow_le_pow_right (by decide) hn7.2) (by decide))) (by omega)], by go_num, rfl⟩
          · have e : n = j := by omega
            subst e
            go_wp2_with fail
            go_meet
            exact ⟨by rw [cntB_pop0 n (by omega) av HVL.out], rfl⟩
      case rest =>
        obtain ⟨rfl, rfl⟩ := hcut
        have hpl := pop_le hn7 HVL.out
        have hpb0 := KB.out.cell (i := 0) (v := .int .i64 (r : Int)) rfl
        have hpb1 := KB.out.cell (i := 1) (v := .int .i64 (d : Int)) rfl
        cases hmj : maj av n with
        | true =>
          have hm1 : (n : Int) < 2 * (pop av : Int) := by rw [maj_two] at hmj; have := of_decide_eq_true hmj; omega
          rw [hmj] at HR HM F1 F2 F6
          have F6 : Hid (opn L2 = []) := Lib.hid (by rw [F6.out]; rfl)
          have F2 : Hid ((kget (k : Int) L2).v = sv) := Lib.hid (by rw [F2.out]; rfl)
          clear hmj F7
          cases ch with
          | true =>
            as_aux_lemma =>
            go_wp2_with (first
              | (go_at_call 12; refine (add_S p m ⟨n, 0, K⟩ a r d k sv _ T.out).mono ?_; rw [HR.out]; rintro e1 w5 ⟨rfl, t5, f5⟩; have T5 := Lib.hid t5; have B5 := Lib.hid (Fr.upB B.out f5 (fun i e => by rcases e with e | e <;> omega)); have K5 := Lib.hid (KB.out.fr f5 (fun e => by rcases e with e | e <;> omega)); clear t5 f5)
              | (go_at_call 13; refine (chosen_S p m ⟨n, 0, L2⟩ k _ T5.out (by unfold in64; omega)).mono ?_; rw [F1.out, F2.out]; rintro e1 w7 ⟨rfl, b7⟩; have T7 := Lib.hid (T5.out.below b7); have B7 := Lib.hid (bchain B5.out b7); have K7 := Lib.hid (K5.out.bel b7); clear b7)
              | (go_at_call 14; refine (votes_S p m ⟨n, 0, L2⟩ k _ T7.out (by unfold in64; omega)).mono ?_; rw [F3.out, F4.out, F5.out]; rintro e1 w6 ⟨rfl, b6⟩; have bx := box_below w6 (.cells #[.int .i64 (r : Int), .int .i64 (d : Int)] 31); have kb := Blk.new w6 31 #[.int .i64 (r : Int), .int .i64 (d : Int)]; have g0 := kb.cell (i := 0) (v := .int .i64 (r : Int)) rfl; have g1 := kb.cell (i := 1) (v := .int .i64 (d : Int)) rfl; have T6 := Lib.hid ((T7.out.below b6).below bx); have B6 := Lib.hid (bchain (bchain B7.out b6) bx); have K6 := Lib.hid ((K7.out.bel b6).bel bx); have g2 := K6.out.cell (i := 0) (v := .int .i64 (r : Int)) rfl; have g3 := K6.out.cell (i := 1) (v := .int .i64 (d : Int)) rfl; clear b6 bx kb)
              | (go_at_call 15; refine (open_S p m ⟨n, 0, L2⟩ _ T6.out).mono ?_; rw [F6.out]; rintro e1 w8 ⟨v8, rfl, r8, b8⟩; obtain ⟨A9, k9, hv9, _, _⟩ := r8.view; (try simp only [List.length_nil] at hv9); subst hv9; have T8 := Lib.hid (T6.out.below b8); have B8 := Lib.hid (bchain B6.out b8); have K8 := Lib.hid (K6.out.bel b8); clear b8 r8))
            go_roundg (N - (i + 1))
            case measure => omega
            case rel => exact ⟨i + 1, av, true, L2, by omega, rfl, rfl, rfl, by go_num, T8.out, HM.out, K8.out, B8.out⟩
          | false =>
            as_aux_lemma =>
            go_wp2_with (first
              | (go_at_call 12; refine (add_S p m ⟨n, 0, K⟩ a r d k sv _ T.out).mono ?_; rw [HR.out]; rintro e1 w5 ⟨rfl, t5, f5⟩; have T5 := Lib.hid t5; have B5 := Lib.hid (Fr.upB B.out f5 (fun i e => by rcases e with e | e <;> omega)); have K5 := Lib.hid (KB.out.fr f5 (fun e => by rcases e with e | e <;> omega)); clear t5 f5)
              | (go_at_call 13; refine (chosen_S p m ⟨n, 0, L2⟩ k _ T5.out (by unfold in64; omega)).mono ?_; rw [F1.out, F2.out]; rintro e1 w7 ⟨rfl, b7⟩; have T7 := Lib.hid (T5.out.below b7); have B7 := Lib.hid (bchain B5.out b7); have K7 := Lib.hid (K5.out.bel b7); clear b7)
              | (go_at_call 14; refine (votes_S p m ⟨n, 0, L2⟩ k _ T7.out (by unfold in64; omega)).mono ?_; rw [F3.out, F4.out, F5.out]; rintro e1 w6 ⟨rfl, b6⟩; have bx := box_below w6 (.cells #[.int .i64 (r : Int), .int .i64 (d : Int)] 31); have kb := Blk.new w6 31 #[.int .i64 (r : Int), .int .i64 (d : Int)]; have g0 := kb.cell (i := 0) (v := .int .i64 (r : Int)) rfl; have g1 := kb.cell (i := 1) (v := .int .i64 (d : Int)) rfl; have T6 := Lib.hid ((T7.out.below b6).below bx); have B6 := Lib.hid (bchain (bchain B7.out b6) bx); have K6 := Lib.hid ((K7.out.bel b6).bel bx); have g2 := K6.out.cell (i := 0) (v := .int .i64 (r : Int)) rfl; have g3 := K6.out.cell (i := 1) (v := .int .i64 (d : Int)) rfl; clear b6 bx kb)
              | (go_at_call 15; refine (open_S p m ⟨n, 0, L2⟩ _ T6.out).mono ?_; rw [F6.out]; rintro e1 w8 ⟨v8, rfl, r8, b8⟩; obtain ⟨A9, k9, hv9, _, _⟩ := r8.view; (try simp only [List.length_nil] at hv9); subst hv9; have T8 := Lib.hid (T6.out.below b8); have B8 := Lib.hid (bchain B6.out b8); have K8 := Lib.hid (K6.out.bel b8); clear b8 r8))
            go_roundg (N - (i + 1))
            case measure => omega
            case rel => exact ⟨i + 1, av, true, L2, by omega, rfl, rfl, rfl, by go_num, T8.out, HM.out, K8.out, B8.out⟩
        | false =>
          have hm1 : ¬ (n : Int) < 2 * (pop av : Int) := by rw [maj_two] at hmj; have := of_decide_eq_false hmj; omega
          rw [hmj] at HR HM F1 F2 F6
          have F6 : Hid (opn L2 = [(k : Int)]) := Lib.hid (by rw [F6.out]; rfl)
          have F2 : Hid ((kget (k : Int) L2).v = ⟨#[]⟩) := Lib.hid (by rw [F2.out]; rfl)
          obtain rfl := F7.out hmj
          clear hmj F7
          as_aux_lemma =>
          go_wp2_with (first
            | (go_at_call 12; refine (add_S p m ⟨n, 0, K⟩ a r d k sv _ T.out).mono ?_; rw [HR.out]; rintro e1 w5 ⟨rfl, t5, f5⟩; have T5 := Lib.hid t5; have B5 := Lib.hid (Fr.upB B.out f5 (fun i e => by rcases e with e | e <;> omega)); have K5 := Lib.hid (KB.out.fr f5 (fun e => by rcases e with e | e <;> omega)); clear t5 f5)
            | (go_at_call 13; refine (chosen_S p m ⟨n, 0, L2⟩ k _ T5.out (by unfold in64; omega)).mono ?_; rw [F1.out, F2.out]; rintro e1 w7 ⟨rfl, b7⟩; have T7 := Lib.hid (T5.out.below b7); have B7 := Lib.hid (bchain B5.out b7); have K7 := Lib.hid (K5.out.bel b7); clear b7)
            | (go_at_call 14; refine (votes_S p m ⟨n, 0, L2⟩ k _ T7.out (by unfold in64; omega)).mono ?_; rw [F3.out, F4.out, F5.out]; rintro e1 w6 ⟨rfl, b6⟩; have bx := box_below w6 (.cells #[.int .i64 (r : Int), .int .i64 (d : Int)] 31); have kb := Blk.new w6 31 #[.int .i64 (r : Int), .int .i64 (d : Int)]; have g0 := kb.cell (i := 0) (v := .int .i64 (r : Int)) rfl; have g1 := kb.cell (i := 1) (v := .int .i64 (d : Int)) rfl; have T6 := Lib.hid ((T7.out.below b6).below bx); have B6 := Lib.hid (bchain (bchain B7.out b6) bx); have K6 := Lib.hid ((K7.out.bel b6).bel bx); have g2 := K6.out.cell (i := 0) (v := .int .i64 (r : Int)) rfl; have g3 := K6.out.cell (i := 1) (v := .int .i64 (d : Int)) rfl; clear b6 bx kb)
            | (go_at_call 15; refine (open_S p m ⟨n, 0, L2⟩ _ T6.out).mono ?_; rw [F6.out]; rintro e1 w8 ⟨v8, rfl, r8, b8⟩; obtain ⟨A9, k9, hv9, _, _⟩ := r8.view; simp only [List.length_cons, List.length_nil] at hv9; subst hv9; have T8 := Lib.hid (T6.out.below b8); have B8 := Lib.hid (bchain B6.out b8); have K8 := Lib.hid (K6.out.bel b8); clear b8 r8))
          go_roundg (N - (i + 1))
          case measure => omega
          case rel => exact ⟨i + 1, av, false, L2, by omega, rfl, rfl, rfl, by go_num, T8.out, HM.out, K8.out, B8.out⟩
    · have e : i = N := by omega
      subst e
      clear hlt
      go_wp2_with (first
        | (go_at_call 10; refine (works_any _).mono ?_; rintro e wk ⟨rfl, bk⟩))
      go_returns
      exact ⟨rfl, hB.trans (bk.mono hB.size)⟩
end Go.Proofs.Ytnnadpbfidfhoaa.learnMajority
