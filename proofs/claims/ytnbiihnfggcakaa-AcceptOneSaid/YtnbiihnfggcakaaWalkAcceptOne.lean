/- The walk of skaldlaw12.AcceptOne: it returns true, and writes nothing that was there. -/
import Derived.Test.YtnbiihnfggcakaaAccP
import Derived.OpenShut
set_option linter.unusedVariables false
set_option linter.unusedSimpArgs false
namespace Go.Proofs.Ytnbiihnfggcakaa.acceptOne
open Go.RowKit Go.Shelf
set_option maxRecDepth 100000 in
set_option maxHeartbeats 4000000 in
theorem walk (v0 : Value) (L : List Stp) (s : Stp) (w : World) (hL : StepsIn w v0 L) (hs : okStp s) :
    Calls Try.prog 8 #[v0, .agg (stpCells s).toArray] w fun e w' => e = .returned (.bool true) ∧ Below w.heap.size w w' := by
  obtain ⟨a, r, d, k, v⟩ := s
  have hE := fun (a b c d : Int) (w : World) => eqBal a b c d w
  have hG := eqGBal
  have hE2 := fun (s a b : Int) (v : ByteArray) (t c d : Int) (u : ByteArray) (w : World) => eqEnt s a b v t c d u w
  have hG2 := eqGEnt
  have xs := Blk.new w 36 #[.int .i64 a, .int .i64 r, .int .i64 d, .int .i64 k, .string v]
  have b0 := box_below w (.cells #[.int .i64 a, .int .i64 r, .int .i64 d, .int .i64 k, .string v] 36)
  have s0 : w.heap.size + 1 ≤ (w.alloc (.cells #[.int .i64 a, .int .i64 r, .int .i64 d, .int .i64 k, .string v] 36)).heap.size := by simp
  have hk64 : in64 k := hs.2.2.2.1
  have HL := Lib.hid (hL.below b0)
  have HS := Lib.hid hs
  have tokS : True := trivial
  clear hL hs
  go_enter Try.func8, Try.ntmps8
  go_wp2_with fail
  generalize (w.alloc (.cells #[.int .i64 a, .int .i64 r, .int .i64 d, .int .i64 k, .string v] 36)) = w0 at *
  obtain ⟨g, hg⟩ : ∃ g, g = w.heap.size := ⟨_, rfl⟩
  rw [← hg] at xs s0 ⊢
  have hgw : w.heap.size ≤ g := by omega
  have hgw2 : g ≤ w.heap.size := by omega
  clear hg
  have B0 := Lib.hid b0
  have Xs0 := Lib.hid xs
  have x0 := xs.cell (i := 0) (v := .int .i64 a) rfl
  have x1 := xs.cell (i := 1) (v := .int .i64 r) rfl
  have x2 := xs.cell (i := 2) (v := .int .i64 d) rfl
  have x3 := xs.cell (i := 3) (v := .int .i64 k) rfl
  have x4 := xs.cell (i := 4) (v := .string v) rfl
  clear b0 xs
  cases hsl : shortB L with
  | false =>
    go_wp2_with (first
      | (go_at_call 12; refine (short_any _ _ _ HL.out).mono ?_; rintro e w' ⟨rfl, rfl⟩)
      | (go_at_call 13; refine (works_any _).mono ?_; rintro e wk ⟨rfl, bk⟩))
    go_returns
    exact ⟨rfl, bchain B0.out bk⟩
  | true =>
  cases hss : shortB [(a, r, d, k, v)] with
  | false =>
    go_wp2_with (first
      | (go_at_call 12; have _t := tokS; refine (short_any _ _ _ HL.out).mono ?_; rintro e w' ⟨rfl, rfl⟩; clear tokS)
      | (go_at_call 12; refine (short_any _ [(a, r, d, k, v)] _ (stepsIn_lit _ (a, r, d, k, v) HS.out)).mono ?_; rintro e w' ⟨rfl, rfl⟩)
      | (go_at_call 13; refine (works_any _).mono ?_; rintro e wk ⟨rfl, bk⟩))
    go_returns
    exact ⟨rfl, bchain (bchain B0.out (box_below _ _)) bk⟩
  | true =>
    go_wp2_with (first
      | (go_at_call 12; have _t := tokS; refine (short_any _ _ _ HL.out).mono ?_; rintro e w' ⟨rfl, rfl⟩; clear tokS)
      | (go_at_call 12; refine (short_any _ [(a, r, d, k, v)] _ (stepsIn_lit _ (a, r, d, k, v) HS.out)).mono ?_; rintro e w' ⟨rfl, rfl⟩))
    have bx := box_below w0 (.cells #[.int .i64 a, .int .i64 r, .int .i64 d, .int .i64 k, .string v] 36)
    have HL1 := Lib.hid (HL.out.below bx)
    have Xs1 := Lib.hid (Xs0.out.bel bx)
    have B1 := Lib.hid (bchain B0.out bx)
    have s1 := bx.size
    generalize (w0.alloc (.cells #[.int .i64 a, .int .i64 r, .int .i64 d, .int .i64 k, .string v] 36)) = w1 at *
    clear bx x0 x1 x2 x3 x4
    go_wp2_with (first
      | (go_at_call 34; refine (filled_any _ _ _ HL1.out).mono ?_; rintro e w2 ⟨p, m, rfl, t2, hp, hm, bl2⟩; have Xs2 := Lib.hid (Xs1.out.bel bl2); have B2 := Lib.hid (bchain B1.out bl2); obtain ⟨hpl, hml⟩ := t2.lt; have TA2 := Lib.hid t2; clear t2 bl2)
      | (go_at_call 28; refine (copy_S p m _ _ TA2.out).mono ?_; rintro e w3 ⟨q, n, rfl, t3, hq, hn, bl3⟩; have TA3 := Lib.hid (TA2.out.below bl3); have Xs3 := Lib.hid (Xs2.out.bel bl3); have B3 := Lib.hid (bchain B2.out bl3); obtain ⟨hql, hnl⟩ := t3.lt; have TB3 := Lib.hid t3; have xs3_1 := Xs3.out.cell (i := 1) (v := .int .i64 r) rfl; have xs3_2 := Xs3.out.cell (i := 2) (v := .int .i64 d) rfl; have xs3_3 := Xs3.out.cell (i := 3) (v := .int .i64 k) rfl; have xs3_4 := Xs3.out.cell (i := 4) (v := .string v) rfl; clear t3 bl3))
    by_cases he : acE (fillS L) r d k v = 0
    · have c0 := acS_ok he
      have hsrt := TA3.out.good.srt
      have hgd := AGood.acc TA3.out.good r d k v
      rw [c0] at hgd
      have C0 := Lib.hid c0
      have HE0 := Lib.hid he
      have HSR := Lib.hid hsrt
      have hm1 := listL_zero hgd
      have hm2 := listL_zero TA3.out.good
      have HGD := Lib.hid hgd
      simp only at hm1
      have HM1 := Lib.hid hm1
      have HM2 := Lib.hid hm2
      clear c0 he hsrt hgd hm1 hm2
      go_wp2_with (first
        | (go_at_call 19; refine (accept_S p m _ _ r d k v TA3.out).mono ?_; rintro e w4 ⟨rfl, t4, f4⟩; rw [HE0.out]; rw [C0.out] at t4; have TB4 := Lib.hid (TB3.out.fr f4 (fun e => by rcases e with e | e <;> omega) (fun e => by rcases e with e | e <;> omega)); have Xs4 := Lib.hid (Xs3.out.fr f4 (fun e => by rcases e with e | e <;> omega)); have B4 := Lib.hid (Fr.upB B3.out f4 (fun i e => by rcases e with e | e <;> omega)); have TA4 := Lib.hid t4; clear t4 f4)
        | (go_at_call 16; refine (list_S p m _ _ 0 TA4.out).mono ?_; rintro e w5 ⟨vM, rfl, r5, bl5⟩; have TA5 := Lib.hid (TA4.out.below bl5); have TB5 := Lib.hid (TB4.out.below bl5); have Xs5 := Lib.hid (Xs4.out.bel bl5); have B5 := Lib.hid (bchain B4.out bl5); have RM5 := Lib.hid r5; have xs5_1 := Xs5.out.cell (i := 1) (v := .int .i64 r) rfl; have xs5_2 := Xs5.out.cell (i := 2) (v := .int .i64 d) rfl; have xs5_3 := Xs5.out.cell (i := 3) (v := .int .i64 k) rfl; have xs5_4 := Xs5.out.cell (i := 4) (v := .string v) rfl; clear bl5 r5))
      have rm : EntRow w5 w4.heap.size vM (listL 0 (put k (r, d, v) (fillS L).L)) := RM5.out
      rw [HM1.out] at rm
      have hMd : del k (put k (r, d, v) (fillS L).L) = del k (fillS L).L := del_put HSR.out
      have hMm : ∀ p, p ∈ put k (r, d, v) (fillS L).L ↔ p = (k, (r, d, v)) ∨ p ∈ (fillS L).L ∧ p.1 ≠ k := fun p => mem_put
      have hMl : (put k (r, d, v) (fillS L).L).length ≤ 4096 := HGD.out.len
      have hLl : (fillS L).L.length ≤ 4096 := TB5.out.good.len
      have hLs : ∀ p ∈ (fillS L).L, in64 p.1 := fun p hp => in_of_good TB5.out.good p hp
      have HMD := Lib.hid hMd
      have HMM := Lib.hid hMm
      have HLS := Lib.hid hLs
      have s5 : ∀ x, w5.heap.size ≤ x → w5.heap.size ≤ x := fun x h => h
      clear hMd hMm hLs s5
      generalize put k (r, d, v) (fillS L).L = M at *
      obtain ⟨A9, k9, rfl, hk9, hx9⟩ := rm.view
      have HX := Lib.hid hx9
      have tok9 : True := trivial
      have tokA : True := trivial
      clear rm hx9
      go_loopw [8, 9] (fun c8 c9 wr => ∃ i : Nat, i ≤ M.length ∧ c8 = .int .i64 ((del k (M.take i)).length : Int) ∧ c9 = .int .i64 i ∧ Below w5.heap.size w5 wr) (fun _ c9 _ => M.length - (intOf c9).toNat)
      case atStart => exact ⟨0, by omega, rfl, rfl, Below.refl _ _⟩
      case round =>
        obtain ⟨i, hi, rfl, rfl, hB⟩ := hrel
        have hc9 : (del k (M.take i)).length ≤ i := Nat.le_trans (List.length_filter_le _ _) (List.length_take_le i M)
        have HXS := Lib.hid (Xs5.out.bel hB)
        have TBr := Lib.hid (TB5.out.below hB)
        have y1 := HXS.out.cell (i := 1) (v := .int .i64 r) rfl
        have y2 := HXS.out.cell (i := 2) (v := .int .i64 d) rfl
        have y3 := HXS.out.cell (i := 3) (v := .int .i64 k) rfl
        have y4 := HXS.out.cell (i := 4) (v := .string v) rfl
        by_cases hlt : i < M.length
        · obtain ⟨g9, rfl, _, hg9, hcells⟩ := HX.out (by omega)
          obtain ⟨⟨s', e1, e2, e3⟩, hs⟩ : ∃ x, M[i]? = some x := ⟨_, List.getElem?_eq_getElem hlt⟩
          obtain ⟨m1, m2, m3, m4⟩ := hcells i _ _ hs
          have z1 := bcell hB m1
          have z2 := bcell hB m2
          have z3 := bcell hB m3
          have z4 := bcell hB m4
          have hmem := (HMM.out _).1 (List.mem_of_getElem? hs)
          have HSn := Lib.hid (take_snoc hs)
          clear m1 m2 m3 m4 hcells hs
          by_cases hsk : s' = k
          · have he : (e1, e2, e3) = (r, d, v) := by
              rcases hmem with h | ⟨_, h⟩
              · exact (Prod.mk.inj h).2
              · exact absurd hsk h
            cases he
            subst hsk
            have q6 : entEq (s', r, d, v) (s', r, d, v) = true := (entEq_iff _ _).2 rfl
            have HC : Hid (del s' (M.take (i + 1)) = del s' (M.take i)) := by rw [Hid, HSn.out]; simp [del]
            clear hmem
            go_wp2_with fail
            go_quiet (fail)
            go_wp2_with fail
            go_quiet (fail)
            go_wp2_with fail
            go_roundw
            case rel => exact ⟨i + 1, by omega, by rw [HC.out], by go_num, below_drewN hB _⟩
            case measure => simp [intOf]; omega
          · have hin : (s', e1, e2, e3) ∈ (fillS L).L := by
              rcases hmem with h | ⟨h, _⟩
              · exact absurd (Prod.mk.inj h).1 hsk
              · exact h
            have hsk' : ((s' : Int) == k) = false := by simpa using hsk
            have hac := accdV_some (get_of_mem HSR.out hin)
            have HA := Lib.hid hac
            have hi64 := HLS.out _ hin
            have q7 : entEq (s', e1, e2, e3) (s', e1, e2, e3) = true := (entEq_iff _ _).2 rfl
            have HC : Hid ((del k (M.take (i + 1))).length = (del k (M.take i)).length + 1) := by rw [Hid, HSn.out]; simp [del, hsk]
            have HI64 := Lib.hid hi64
            clear hmem hin hac hi64 hsk
            go_wp2_with fail
            go_quiet (fail)
            have TBq := Lib.hid (TBr.out.below (below_drewN (Below.refl _ _) nq))
            have hBq := below_drewN hB nq
            have u1 := bcell (below_drewN (Below.refl wr.heap.size wr) nq) z1
            have u2 := bcell (below_drewN (Below.refl wr.heap.size wr) nq) z2
            have u3 := bcell (below_drewN (Below.refl wr.heap.size wr) nq) z3
            have u4 := bcell (below_drewN (Below.refl wr.heap.size wr) nq) z4
            clear y1 y2 y3 y4 z1 z2 z3 z4
            generalize wr.drewN nq = wp at *
            go_wp2_with (first
              | (go_at_call 22; refine (accepted_S q n _ _ s' TBq.out HI64.out).mono ?_; rintro e x1 ⟨rfl, bx⟩; rw [HA.out]; have z1 := bcell (bx.trans ((box_below x1 (.cells #[.int .i64 s', .int .i64 e1, .int .i64 e2, .string e3] 43)).mono bx.size)) u1; have z2 := bcell (bx.trans ((box_below x1 (.cells #[.int .i64 s', .int .i64 e1, .int .i64 e2, .string e3] 43)).mono bx.size)) u2; have z3 := bcell (bx.trans ((box_below x1 (.cells #[.int .i64 s', .int .i64 e1, .int .i64 e2, .string e3] 43)).mono bx.size)) u3; have z4 := bcell (bx.trans ((box_below x1 (.cells #[.int .i64 s', .int .i64 e1, .int .i64 e2, .string e3] 43)).mono bx.size)) u4; have BX := Lib.hid (hBq.trans ((bx.trans ((box_below x1 (.cells #[.int .i64 s', .int .i64 e1, .int .i64 e2, .string e3] 43)).mono bx.size)).mono hBq.size)); clear bx))
            have kb := Blk.new x1 43 #[.int .i64 s', .int .i64 e1, .int .i64 e2, .string e3]
            have o1 := kb.cell (i := 0) (v := .int .i64 s') rfl
            have o2 := kb.cell (i := 1) (v := .int .i64 e1) rfl
            have o3 := kb.cell (i := 2) (v := .int .i64 e2) rfl
            have o4 := kb.cell (i := 3) (v := .string e3) rfl
            clear kb u1 u2 u3 u4
            generalize (x1.alloc (.cells #[.int .i64 s', .int .i64 e1, .int .i64 e2, .string e3] 43)) = x2 at *
            go_quiet (fail)
            go_wp2_with fail
            go_roundw
            case rel => exact ⟨i + 1, by omega, by rw [HC.out]; go_num, by go_num, below_drewN BX.out _⟩
            case measure => simp [intOf]; omega
        · have e : i = M.length := by omega
          have hcnt : (del k (M.take i)).length = (del k (fillS L).L).length := by rw [e, List.take_length, HMD.out]
          have hdl := del_len (k := k) HSR.out
          rw [hcnt]
          have TAr := Lib.hid (TA5.out.below hB)
          have Br := Lib.hid (B5.out.trans (hB.mono (bchainSz B5.out)))
          have hdle : (del k (fillS L).L).length ≤ 4096 := by omega
          obtain ⟨cc, hcc⟩ : ∃ cc, cc = (del k (fillS L).L).length := ⟨_, rfl⟩
          rw [← hcc] at hdl hdle ⊢
          clear hcnt hcc hc9
          cases hgt : get k (fillS L).L with
          | none =>
            have hac := accdV_none hgt
            have hnn : ((cc : Int) == ((fillS L).L.length : Int)) = true := by rw [hgt] at hdl; simp at hdl ⊢; omega
            have HA := Lib.hid hac
            have HNN := Lib.hid hnn
            have hsz : 1 ≤ (fillS L).L.length ∨ cc ≤ 4096 := by omega
            clear hac hdl hgt
            go_wp2_with (first
              | (go_at_call 22; refine (accepted_S q n _ _ k TBr.out hk64).mono ?_; rintro e x1 ⟨rfl, bx⟩; rw [HA.out]; have TA1' := Lib.hid ((TAr.out.below bx).below (box_below x1 (.cells #[.int .i64 0, .int .i64 0, .int .i64 0, .string ⟨#[]⟩] 43))); have TB1' := Lib.hid ((TBr.out.below bx).below (box_below x1 (.cells #[.int .i64 0, .int .i64 0, .int .i64 0, .string ⟨#[]⟩] 43))); have BX := Lib.hid (bchain (bchain Br.out bx) (box_below x1 (.cells #[.int .i64 0, .int .i64 0, .int .i64 0, .string ⟨#[]⟩] 43))); clear bx)
              | (go_at_call 16; refine (list_S q n _ _ 0 TB1'.out).mono ?_; rintro e x3 ⟨v3, rfl, r3, b3⟩; rw [HM2.out] at r3; obtain ⟨A3, k3, rfl, hk3, _⟩ := r3.view; have TA3' := Lib.hid (TA1'.out.below b3); have TB3' := Lib.hid (TB1'.out.below b3); have B3' := Lib.hid (bchain BX.out b3); clear r3 b3)
              | (go_at_call 17; have _t := tok9; refine (base_S p m _ _ TA3'.out).mono ?_; rintro e w' ⟨rfl, rfl⟩; clear tok9)
              | (go_at_call 17; refine (base_S q n _ _ TB3'.out).mono ?_; rintro e w' ⟨rfl, rfl⟩)
              | (go_at_call 13; refine (works_any _).mono ?_; rintro e wk ⟨rfl, bk⟩; have BK := Lib.hid (bchain B3'.out bk); clear bk))
            go_returns
            exact ⟨rfl, BK.out⟩
          | some eo =>
            obtain ⟨o1, o2, o3⟩ := eo
            have hac := accdV_some hgt
            have hnn : ((cc : Int) == ((fillS L).L.length : Int) - 1) = true := by rw [hgt] at hdl; simp at hdl ⊢; omega
            have HA := Lib.hid hac
            have HNN := Lib.hid hnn
            have hsz : 1 ≤ (fillS L).L.length ∨ cc ≤ 4096 := by omega
            clear hac hdl hgt
            go_wp2_with (first
              | (go_at_call 22; refine (accepted_S q n _ _ k TBr.out hk64).mono ?_; rintro e x1 ⟨rfl, bx⟩; rw [HA.out]; have TA1' := Lib.hid ((TAr.out.below bx).below (box_below x1 (.cells #[.int .i64 k, .int .i64 o1, .int .i64 o2, .string o3] 43))); have TB1' := Lib.hid ((TBr.out.below bx).below (box_below x1 (.cells #[.int .i64 k, .int .i64 o1, .int .i64 o2, .string o3] 43))); have BX := Lib.hid (bchain (bchain Br.out bx) (box_below x1 (.cells #[.int .i64 k, .int .i64 o1, .int .i64 o2, .string o3] 43))); clear bx)
              | (go_at_call 16; refine (list_S q n _ _ 0 TB1'.out).mono ?_; rintro e x3 ⟨v3, rfl, r3, b3⟩; rw [HM2.out] at r3; obtain ⟨A3, k3, rfl, hk3, _⟩ := r3.view; have TA3' := Lib.hid (TA1'.out.below b3); have TB3' := Lib.hid (TB1'.out.below b3); have B3' := Lib.hid (bchain BX.out b3); clear r3 b3)
              | (go_at_call 17; have _t := tok9; refine (base_S p m _ _ TA3'.out).mono ?_; rintro e w' ⟨rfl, rfl⟩; clear tok9)
              | (go_at_call 17; refine (base_S q n _ _ TB3'.out).mono ?_; rintro e w' ⟨rfl, rfl⟩)
              | (go_at_call 13; refine (works_any _).mono ?_; rintro e wk ⟨rfl, bk⟩; have BK := Lib.hid (bchain B3'.out bk); clear bk))
            go_returns
            exact ⟨rfl, BK.out⟩
    · have c0 := acS_no he
      have c1 := eqA_same (fillS L)
      have he' : (acE (fillS L) r d k v != 0) = true := by simpa using he
      have C0 := Lib.hid c0
      have C1 := Lib.hid c1
      clear c0 c1 he
      go_wp2_with (first
        | (go_at_call 19; refine (accept_S p m _ _ r d k v TA3.out).mono ?_; rintro e w4 ⟨rfl, t4, f4⟩; rw [C0.out] at t4; have TB4 := Lib.hid (TB3.out.fr f4 (fun e => by rcases e with e | e <;> omega) (fun e => by rcases e with e | e <;> omega)); have Xs4 := Lib.hid (Xs3.out.fr f4 (fun e => by rcases e with e | e <;> omega)); have B4 := Lib.hid (Fr.upB B3.out f4 (fun i e => by rcases e with e | e <;> omega)); have TA4 := Lib.hid t4; clear t4 f4)
        | (go_at_call 35; refine (equal_any p m q n _ _ _ TA4.out TB4.out).mono ?_; rintro e w5 ⟨rfl, bl5⟩; rw [C1.out]; have TA5 := Lib.hid (TA4.out.below bl5); have TB5 := Lib.hid (TB4.out.below bl5); have Xs5 := Lib.hid (Xs4.out.bel bl5); have B5 := Lib.hid (bchain B4.out bl5); clear bl5)
        | (go_at_call 13; refine (works_any _).mono ?_; rintro e wk ⟨rfl, bk⟩; have BK := Lib.hid (bchain B5.out bk); clear bk))
      go_returns
      exact ⟨rfl, BK.out⟩
end Go.Proofs.Ytnbiihnfggcakaa.acceptOne
