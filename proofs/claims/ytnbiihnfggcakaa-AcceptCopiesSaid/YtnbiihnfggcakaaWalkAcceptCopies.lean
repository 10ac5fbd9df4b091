/- The walk of skaldlaw12.AcceptCopies: it returns true, and writes nothing that was there. -/
import Derived.Test.YtnbiihnfggcakaaAccP
import Derived.OpenShut
set_option linter.unusedVariables false
set_option linter.unusedSimpArgs false
namespace Go.Proofs.Ytnbiihnfggcakaa.acceptCopies
open Go.RowKit Go.Shelf
/-- Behind the first i accepts of a list. -/
def accAll (s : ASt) (K : List Stp) : ASt := K.foldl (fun s x => acS s x.2.1 x.2.2.1 x.2.2.2.1 x.2.2.2.2) s
theorem accAll_succ {s : ASt} {K : List Stp} {i : Nat} {x : Stp} (h : K[i]? = some x) : accAll s (K.take (i + 1)) = acS (accAll s (K.take i)) x.2.1 x.2.2.1 x.2.2.2.1 x.2.2.2.2 := by
  unfold accAll; rw [take_snoc h, List.foldl_append]; rfl

set_option maxRecDepth 100000 in
set_option maxHeartbeats 4000000 in
theorem walk (v0 : Value) (L : List Stp) (v1 : Value) (K : List Stp) (w : World) (hL : StepsIn w v0 L) (hK : StepsIn w v1 K) :
    Calls Try.prog 10 #[v0, v1] w fun e w' => e = .returned (.bool true) ∧ Below w.heap.size w w' := by
  have HL := Lib.hid hL
  have HK := Lib.hid hK
  obtain ⟨A0, cap0, rfl, hcap0, hmax0, _⟩ := hL
  obtain ⟨A1, cap1, rfl, hcap1, hmax1, hin, hc⟩ := hK
  have HC := Lib.hid hc
  have HIN := Lib.hid hin
  have hml : cap1 ≤ 9223372036854775807 := by unfold maxLen at hmax1; omega
  have hml0 : cap0 ≤ 9223372036854775807 := by unfold maxLen at hmax0; omega
  clear hc hin hmax0 hmax1
  have B0 := Lib.hid (Below.refl w.heap.size w)
  have tokS : True := trivial
  go_enter Try.func10, Try.ntmps10
  by_cases hl : L.length > 60
  · have hl' : decide ((L.length : Int) > 60) = true := by simp; omega
    clear hl
    go_wp2_with (first
      | (go_at_call 13; refine (works_any _).mono ?_; rintro e wk ⟨rfl, bk⟩))
    go_returns
    exact ⟨rfl, bk⟩
  have hl' : decide ((L.length : Int) > 60) = false := by simp; omega
  by_cases hk : K.length > 60
  · have hk' : decide ((K.length : Int) > 60) = true := by simp; omega
    clear hk hl
    go_wp2_with (first
      | (go_at_call 13; refine (works_any _).mono ?_; rintro e wk ⟨rfl, bk⟩))
    go_returns
    exact ⟨rfl, bk⟩
  have hk' : decide ((K.length : Int) > 60) = false := by simp; omega
  have hl2 : L.length ≤ 60 := by omega
  have hk2 : K.length ≤ 60 := by omega
  clear hk hl
  cases hsl : shortB L with
  | false =>
    go_wp2_with (first
      | (go_at_call 12; refine (short_any _ _ _ HL.out).mono ?_; rintro e w' ⟨rfl, rfl⟩)
      | (go_at_call 13; refine (works_any _).mono ?_; rintro e wk ⟨rfl, bk⟩))
    go_returns
    exact ⟨rfl, bk⟩
  | true =>
    cases hsk : shortB K with
    | false =>
      go_wp2_with (first
        | (go_at_call 12; have _t := tokS; refine (short_any _ _ _ HL.out).mono ?_; rintro e w' ⟨rfl, rfl⟩; clear tokS)
        | (go_at_call 12; refine (short_any _ _ _ HK.out).mono ?_; rintro e w' ⟨rfl, rfl⟩)
        | (go_at_call 13; refine (works_any _).mono ?_; rintro e wk ⟨rfl, bk⟩))
      go_returns
      exact ⟨rfl, bk⟩
    | true =>
      have e0 := eqA_same (fillS L)
      have E0 := Lib.hid e0
      clear e0
      have tok1 : True := trivial
      go_wp2_with (first
        | (go_at_call 12; have _t := tokS; refine (short_any _ _ _ HL.out).mono ?_; rintro e w' ⟨rfl, rfl⟩; clear tokS)
        | (go_at_call 12; refine (short_any _ _ _ HK.out).mono ?_; rintro e w' ⟨rfl, rfl⟩)
        | (go_at_call 34; refine (filled_any _ _ _ HL.out).mono ?_; rintro e w1 ⟨p, m, rfl, t1, hp, hm, bl1⟩; have B1 := Lib.hid (bchain B0.out bl1); obtain ⟨hpl, hml⟩ := t1.lt; have TA1 := Lib.hid t1; clear t1 bl1)
        | (go_at_call 28; have _t := tok1; refine (copy_S p m _ _ TA1.out).mono ?_; rintro e w2 ⟨q, n, rfl, t2, hq, hn, bl2⟩; have TA2 := Lib.hid (TA1.out.below bl2); have B2 := Lib.hid (bchain B1.out bl2); obtain ⟨hql, hnl⟩ := t2.lt; have TB2 := Lib.hid t2; clear t2 bl2 tok1)
        | (go_at_call 28; refine (copy_S p m _ _ TA2.out).mono ?_; rintro e w3 ⟨u, h, rfl, t3, hu, hh, bl3⟩; have TA3 := Lib.hid (TA2.out.below bl3); have TB3 := Lib.hid (TB2.out.below bl3); have B3 := Lib.hid (bchain B2.out bl3); obtain ⟨hul, hhl⟩ := t3.lt; have TC3 := Lib.hid t3; clear t3 bl3)
        | (go_at_call 35; refine (equal_any p m q n _ _ _ TA3.out TB3.out).mono ?_; rintro e w4 ⟨rfl, bl4⟩; rw [E0.out]; have TA4 := Lib.hid (TA3.out.below bl4); have TB4 := Lib.hid (TB3.out.below bl4); have TC4 := Lib.hid (TC3.out.below bl4); have B4 := Lib.hid (bchain B3.out bl4); clear bl4))
      obtain ⟨wo, hwo⟩ : ∃ wo : World, wo = w4 := ⟨_, rfl⟩
      go_loopw [8] (fun c wr => ∃ (i : Nat), i ≤ K.length ∧ c = .int .i64 i ∧ AS wr p m (fillS L) ∧ AS wr q n (accAll (fillS L) (K.take i)) ∧ AS wr u h (accAll (fillS L) (K.take i)) ∧ Below w.heap.size w wr) (fun c _ => K.length - (intOf c).toNat)
      case atStart => exact ⟨0, by omega, rfl, TA4.out, TB4.out, TC4.out, B4.out⟩
      case round =>
        obtain ⟨i, hi, rfl, ta, tb, tc, hB⟩ := hrel
        have TA := Lib.hid ta
        have TB := Lib.hid tb
        have TC := Lib.hid tc
        clear ta tb tc
        by_cases hlt : i < K.length
        · obtain ⟨b, off, rfl, hb, hcells⟩ := HC.out (by omega)
          obtain ⟨⟨x, r, d, k, s⟩, hs⟩ : ∃ s, K[i]? = some s := ⟨_, List.getElem?_eq_getElem hlt⟩
          obtain ⟨q0, q1, q2, q3, q4⟩ := hcells i _ hs
          have d1 := bcell hB q1
          have d2 := bcell hB q2
          have d3 := bcell hB q3
          have d4 := bcell hB q4
          have HN := Lib.hid (accAll_succ (s := fillS L) hs)
          simp only at d1 d2 d3 d4
          generalize accAll (fillS L) (K.take i) = st at *
          have tok1 : True := trivial
          clear q0 q1 q2 q3 q4 hs hcells
          go_wp2_with fail
          go_region_held3 (fun W => W.cell? ⟨b, off + i * 5 + 1, none⟩ = some (.int .i64 r) ∧ W.cell? ⟨b, off + i * 5 + 2, none⟩ = some (.int .i64 d) ∧ W.cell? ⟨b, off + i * 5 + 3, none⟩ = some (.int .i64 k) ∧ W.cell? ⟨b, off + i * 5 + 4, none⟩ = some (.string s))
            (first | exact ⟨by assumption, by assumption, by assumption, by assumption⟩ | go_keep)
            (first
              | (go_at_call 19; have _t := tok1; refine (accept_S q n _ _ r d k s TB.out.drew).mono ?_; rintro e x1 ⟨rfl, t1, f1⟩; have UB := Lib.hid t1; have f1' := Fr.of_drew f1; have UA := Lib.hid (TA.out.fr f1' (fun e => by rcases e with e | e <;> omega) (fun e => by rcases e with e | e <;> omega)); have UC := Lib.hid (TC.out.fr f1' (fun e => by rcases e with e | e <;> omega) (fun e => by rcases e with e | e <;> omega)); have BB := Lib.hid (Fr.upB hB f1' (fun i e => by rcases e with e | e <;> omega)); have g1 := f1'.cell (fun e => by rcases e with e | e <;> (have e : b = _ := e; omega)) d1; have g2 := f1'.cell (fun e => by rcases e with e | e <;> (have e : b = _ := e; omega)) d2; have g3 := f1'.cell (fun e => by rcases e with e | e <;> (have e : b = _ := e; omega)) d3; have g4 := f1'.cell (fun e => by rcases e with e | e <;> (have e : b = _ := e; omega)) d4; clear t1 f1 f1' tok1)
              | (go_at_call 19; refine (accept_S u h _ _ r d k s UC.out).mono ?_; rintro e x2 ⟨rfl, t2, f2⟩; have VC := Lib.hid t2; have VA := Lib.hid (UA.out.fr f2 (fun e => by rcases e with e | e <;> omega) (fun e => by rcases e with e | e <;> omega)); have VB := Lib.hid (UB.out.fr f2 (fun e => by rcases e with e | e <;> omega) (fun e => by rcases e with e | e <;> omega)); have BC := Lib.hid (Fr.upB BB.out f2 (fun i e => by rcases e with e | e <;> omega)); have j1 := f2.cell (fun e => by rcases e with e | e <;> (have e : b = _ := e; omega)) g1; have j2 := f2.cell (fun e => by rcases e with e | e <;> (have e : b = _ := e; omega)) g2; have j3 := f2.cell (fun e => by rcases e with e | e <;> (have e : b = _ := e; omega)) g3; have j4 := f2.cell (fun e => by rcases e with e | e <;> (have e : b = _ := e; omega)) g4; clear t2 f2))
          go_wp2_with fail
          go_roundw
          case rel => exact ⟨i + 1, by omega, by go_num, VA.out, by rw [HN.out]; exact VB.out, by rw [HN.out]; exact VC.out, BC.out⟩
          case measure => simp [intOf]; omega
        · have e : i = K.length := by omega
          have tb := TB.out
          have tc := TC.out
          rw [e, List.take_length] at tb tc
          have UB := Lib.hid tb
          have UC := Lib.hid tc
          subst e
          clear tb tc TB TC
          generalize accAll (fillS L) K = st at *
          obtain ⟨hq9, hn9⟩ := UB.out.lt
          obtain ⟨hu9, hh9⟩ := UC.out.lt
          obtain ⟨hp9, hm9⟩ := TA.out.lt
          obtain ⟨wq, hwq⟩ : ∃ wq : World, wq = wr := ⟨_, rfl⟩
          go_wp2_with (first
            | (go_at_call 16; refine (list_S q n _ _ 0 UB.out).mono ?_; rintro e y1 ⟨vx, rfl, rx, bx⟩; have VA := Lib.hid (TA.out.below bx); have VB := Lib.hid (UB.out.below bx); have VC := Lib.hid (UC.out.below bx); have BX := Lib.hid (hB.trans (bx.mono hB.size)); have hys := bx.size; have RX := Lib.hid rx; clear bx rx))
          have hlen := list_len UB.out.good (k := 0)
          generalize listL 0 st.L = X at *
          rcases RX.out.2 with ⟨hv, hn0⟩ | ⟨gx, capx, cur, hv, hbx, hg, hle, hcap, hsz, htake⟩
          · subst hv
            go_loopw [10] (fun c yr => c = .int .i64 0 ∧ yr = y1) (fun _ _ => 0)
            case atStart => exact ⟨rfl, rfl⟩
            case round =>
              obtain ⟨rfl, rfl⟩ := hrel
              have e7 := eqA_same st
              have E7 := Lib.hid e7
              have HL9 := Lib.hid (HL.out.below BX.out)
              clear e7
              have tok8 : True := trivial
              go_wp2_with (first
                | (go_at_call 35; have _t := tok8; refine (equal_any q n u h _ _ _ VB.out VC.out).mono ?_; rintro e z1 ⟨rfl, k1⟩; rw [E7.out]; have ZA := Lib.hid (VA.out.below k1); have HL8 := Lib.hid (HL9.out.below k1); have Z1 := Lib.hid (bchain BX.out k1); clear k1 tok8)
                | (go_at_call 34; refine (filled_any _ _ _ HL8.out).mono ?_; rintro e z2 ⟨p2, m2, rfl, t2, _, _, k2⟩; have ZF := Lib.hid t2; have YA := Lib.hid (ZA.out.below k2); have Z2 := Lib.hid (bchain Z1.out k2); clear t2 k2)
                | (go_at_call 35; refine (equal_any p m p2 m2 _ _ _ YA.out ZF.out).mono ?_; rintro e z3 ⟨rfl, k3⟩; rw [E0.out]; have Z3 := Lib.hid (bchain Z2.out k3); clear k3)
                | (go_at_call 13; refine (works_any _).mono ?_; rintro e z4 ⟨rfl, k4⟩; have Z4 := Lib.hid (bchain Z3.out k4); clear k4))
              go_returns
              exact ⟨rfl, Z4.out⟩
          · subst hv
            have hk9 : capx ≤ 9223372036854775807 := by unfold maxLen at hcap; omega
            have HG := Lib.hid (show Blk y1 gx 43 cur from hg)
            clear hg htake
            go_loopw [10] (fun c yr => ∃ (j : Nat) (cs : Array Value), j ≤ X.length ∧ c = .int .i64 j ∧ Blk yr gx 43 cs ∧ cs.size = cur.size ∧ Fr (S1 gx) y1 yr) (fun c _ => X.length - (intOf c).toNat)
            case atStart => exact ⟨0, cur, by omega, rfl, HG.out, rfl, Fr.refl _ _⟩
            case round =>
              obtain ⟨j, cs, hj, rfl, hblk, hcs, hF⟩ := hrel
              have HF := Lib.hid hF
              have HBK := Lib.hid hblk
              clear hF hblk
              by_cases hjl : j < X.length
              · obtain ⟨uu, huu⟩ : ∃ uu, cs[j * 4 + 3]? = some uu := ⟨_, Array.getElem?_eq_getElem (by omega)⟩
                have z0 := HBK.out.cell huu
                have z1 := HBK.out.frozen (j * 4 + 3)
                clear huu
                go_wp2_with fail
                go_roundw
                case rel => exact ⟨j + 1, cs.setIfInBounds (j * 4 + 3) (.string ⟨#[63]⟩), by omega, by go_num, HBK.out.set _ _, by simpa using hcs, HF.out.setCell (p := ⟨gx, j * 4 + 3, none⟩) (.inl (show S1 gx gx from rfl)) _⟩
                case measure => simp [intOf]; omega
              · have e : j = X.length := by omega
                subst e
                have XA := Lib.hid (VA.out.fr HF.out (fun e => by have e : p = gx := e; omega) (fun e => by have e : m = gx := e; omega))
                have XB := Lib.hid (VB.out.fr HF.out (fun e => by have e : q = gx := e; omega) (fun e => by have e : n = gx := e; omega))
                have XC := Lib.hid (VC.out.fr HF.out (fun e => by have e : u = gx := e; omega) (fun e => by have e : h = gx := e; omega))
                have XX := Lib.hid (Fr.upB BX.out HF.out (fun i e => by have e : i = gx := e; have := hB.size; omega))
                clear VA VB VC BX
                have e7 := eqA_same st
                have E7 := Lib.hid e7
                have HL9 := Lib.hid (HL.out.below XX.out)
                clear e7
                have tok8 : True := trivial
                go_wp2_with (first
                  | (go_at_call 35; have _t := tok8; refine (equal_any q n u h _ _ _ XB.out XC.out).mono ?_; rintro e z1 ⟨rfl, k1⟩; rw [E7.out]; have ZA := Lib.hid (XA.out.below k1); have HL8 := Lib.hid (HL9.out.below k1); have Z1 := Lib.hid (bchain XX.out k1); clear k1 tok8)
                  | (go_at_call 34; refine (filled_any _ _ _ HL8.out).mono ?_; rintro e z2 ⟨p2, m2, rfl, t2, _, _, k2⟩; have ZF := Lib.hid t2; have YA := Lib.hid (ZA.out.below k2); have Z2 := Lib.hid (bchain Z1.out k2); clear t2 k2)
                  | (go_at_call 35; refine (equal_any p m p2 m2 _ _ _ YA.out ZF.out).mono ?_; rintro e z3 ⟨rfl, k3⟩; rw [E0.out]; have Z3 := Lib.hid (bchain Z2.out k3); clear k3)
                  | (go_at_call 13; refine (works_any _).mono ?_; rintro e z4 ⟨rfl, k4⟩; have Z4 := Lib.hid (bchain Z3.out k4); clear k4))
                go_returns
                exact ⟨rfl, Z4.out⟩
end Go.Proofs.Ytnbiihnfggcakaa.acceptCopies
