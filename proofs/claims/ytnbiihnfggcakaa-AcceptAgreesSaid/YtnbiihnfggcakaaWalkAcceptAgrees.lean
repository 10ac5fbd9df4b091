/- The walk of skaldlaw12.AcceptAgrees: it returns true, and writes nothing that was there. -/
import Derived.Test.YtnbiihnfggcakaaAccV
import Derived.OpenShut
import Derived.Deep.DeepCutAuto
import Derived.Deep.CutBlock
import Derived.Deep.LoopGhost
import Derived.Deep.RegionHeld3
set_option linter.unusedVariables false
set_option linter.unusedSimpArgs false
namespace Go.Proofs.Ytnbiihnfggcakaa.acceptAgrees
open Go.RowKit Go.Shelf
set_option maxRecDepth 100000 in
set_option maxHeartbeats 200000000 in
theorem walk (x : Int) (v1 : Value) (L : List Trn) (w : World) (w0 : (Lit.int .u8 x).wf = true) (hL : TurnsIn w v1 L) :
    Calls Try.prog 11 #[.int .u8 x, v1] w fun e w' => e = .returned (.bool true) ∧ Below w.heap.size w w' := by
  obtain ⟨x, hx256, rfl⟩ := u8_nat w0
  obtain ⟨A0, cap0, rfl, hcap0, hmax0, hin, hc⟩ := hL
  have HC := Lib.hid hc
  have HIN := Lib.hid hin
  have hml : cap0 ≤ 9223372036854775807 := by unfold maxLen at hmax0; omega
  clear hc hin hmax0 w0
  have hE := fun (a b c d : Int) (w : World) => eqBal a b c d w
  have hG := eqGBal
  obtain ⟨i0, hi, hz0, hz1, hz2⟩ := info_parts info_acc
  have HI := Lib.hid hi
  have HZ0 := Lib.hid hz0
  have HZ1 := Lib.hid hz1
  have HZ2 := Lib.hid hz2
  clear hi hz0 hz1 hz2
  go_enter Try.func11, Try.ntmps11
  by_cases hl : L.length > 150
  · have hl' : decide ((L.length : Int) > 150) = true := by simp; omega
    clear hl
    go_wp2_with (first
      | (go_at_call 13; refine (works_any _).mono ?_; rintro e wk ⟨rfl, bk⟩))
    go_returns
    exact ⟨rfl, bk⟩
  have hl' : decide ((L.length : Int) > 150) = false := by simp; omega
  have hl150 : L.length ≤ 150 := by omega
  clear hl
  obtain ⟨n, hn⟩ : ∃ n : Nat, n = 1 + x % 5 := ⟨_, rfl⟩
  have hn5 : 1 ≤ n ∧ n ≤ 5 := by omega
  have hxn : (1 : Int) + (x : Int) % 5 = (n : Int) := by omega
  clear hn
  go_wp2_with fail
  go_loopg [6, 7] n (fun g v c wr => ∃ (i : Nat) (N : List PM), i ≤ n ∧ g = n - i ∧ c = .int .i64 i ∧ N.length = i ∧ Nodes wr w.heap.size v N (List.replicate i (newS n)) ∧ Below w.heap.size w wr)
  case atStart => exact ⟨0, [], by omega, by omega, rfl, rfl, Nodes.nil _ _, Below.refl _ _⟩
  case round =>
    obtain ⟨i, N, hi, rfl, rfl, hNi, hN, hB⟩ := hrel
    have HN := Lib.hid hN
    clear hN
    by_cases hlt : i < n
    · have hlt' : (i : Int) < (n : Int) := by omega
      go_wp2_with (first
        | (go_at_call 14; refine (new_S _ n ⟨by omega, by omega⟩).mono ?_; rintro e w1 ⟨p, m, rfl, t1, hp, hm, b1⟩; have T1 := Lib.hid t1; have B1 := Lib.hid b1; have hb1 := b1.size; clear t1 b1)
        | (at_builtin; go_must (refine wpList_app rfl _ _ 57 rfl w.heap.size 25 i0 (.pointer none) 1 8 Try.underlying57 HI.out HZ0.out HZ1.out HZ2.out rfl (by decide) _ _ _ rfl (World.ownsRow.alloc (HN.out.below B1.out).row _) (some ⟨w1.heap.size, 0, none⟩) 1 1 [ptrV (p, m)] rfl (by simp) (by omega) (reads_new _ _ [ptrV (p, m)] 1 1 rfl) (by intro u hu; simp at hu; subst hu; simp [Value.oneCell']) (by unfold maxLen; omega) (by omega) (by have := hB.size; simp; omega) ?_)))
      intro v' w4 hown hgrow _
      have hne1 : ∀ k', some k' = _ → w.heap.size ≤ k' := fun k' hk' => (HN.out.row.lt k' hk'.symm).1
      have hB4 := ((hB.trans (B1.out.mono hB.size)).alloc (by have := hB.size; omega) (.cells #[ptrV (p, m)] 25)).grown hgrow (by have := hB.size; simp; omega) (fun k' ek => by have := hne1 k' ek.symm; omega)
      have hN4 := Nodes.push HN.out hB.size B1.out T1.out hp hm (by rw [hNi]; exact hown) hgrow
      rw [← List.replicate_succ'] at hN4
      go_wp2_with fail
      go_roundg (n - (i + 1))
      case measure => omega
      case rel => exact ⟨i + 1, N ++ [(p, m)], by omega, rfl, by go_num, by simp [hNi], hN4, hB4⟩
    · have e : n = i := by omega
      subst e
      clear hlt hi hNi
      go_wp2_with fail
      have hbw := box_below wr (.cells Try.zeroCells70 70)
      have hzc : Try.zeroCells70 = (cellsT (List.replicate 12 tri0)).toArray := by kernel_rfl
      have HT : Hid (TB (wr.alloc (.cells Try.zeroCells70 70)) wr.heap.size (List.replicate 12 tri0)) := by
        have := Blk.new wr 70 Try.zeroCells70
        rw [hzc] at this
        rw [hzc]
        exact this
      have HN2 := Lib.hid (HN.out.below hbw)
      have B2 := Lib.hid (hB.trans (hbw.mono hB.size))
      have htb := hB.size
      generalize (wr.alloc (.cells Try.zeroCells70 70)) = W1 at *
      obtain ⟨tb, hb8⟩ : ∃ tb, tb = wr.heap.size := ⟨_, rfl⟩
      rw [← hb8] at HT htb ⊢
      clear hb8 hbw hzc HN hB
      go_loopg [11, 12] L.length (fun g ch c wr => ∃ (i : Nat) (A : List ASt) (T : List Tri) (C : ByteArray), i ≤ L.length ∧ g = L.length - i ∧ ch = .string C ∧ c = .int .i64 i ∧ Nodes wr w.heap.size u6 N A ∧ TB wr tb T ∧ Inv n A T C ∧ Below w.heap.size w wr)
      case atStart => exact ⟨0, _, _, ⟨#[]⟩, by omega, rfl, rfl, rfl, HN2.out, HT.out, Inv.start hn5, B2.out⟩
      case round =>
        clear HT HN2 B2
        obtain ⟨i, A, T, C, hi, rfl, rfl, rfl, hN, hT, hI, hB⟩ := hrel
        have HN := Lib.hid hN
        have HT := Lib.hid hT
        have HI2 := Lib.hid hI
        clear hN hT hI
        by_cases hlt : i < L.length
        · obtain ⟨b, off, rfl, hb, hcells⟩ := HC.out (by omega)
          obtain ⟨⟨x2, y, pr⟩, hs⟩ : ∃ s, L[i]? = some s := ⟨_, List.getElem?_eq_getElem hlt⟩
          obtain ⟨q0, q1, q2⟩ := hcells i _ hs
          have ik := HIN.out _ (List.mem_of_getElem? hs)
          obtain ⟨ix, iy⟩ := ik
          simp only at q0 q1 q2 ix iy
          have d0 := bcell hB q0
          have d1 := bcell hB q1
          have d2 := bcell hB q2
          clear q0 q1 q2 hs hcells
          obtain ⟨k, hk⟩ : ∃ k : Nat, k = x2 % 12 := ⟨_, rfl⟩
          have hk12 : k < 12 := by omega
          have hk' : (x2 : Int) % 12 = (k : Int) := by omega
          obtain ⟨a, ha⟩ : ∃ a : Nat, a = y % n := ⟨_, rfl⟩
          have han : a < n := by rw [ha]; exact Nat.mod_lt _ (by omega)
          have ha' : (y : Int) % (n : Int) = (a : Int) := by rw [ha]; exact (Int.natCast_emod y n).symm
          obtain ⟨r1, hr1⟩ : ∃ r1 : Int, r1 = (balI n (k + 1)).1 := ⟨_, rfl⟩
          obtain ⟨e1, he1⟩ : ∃ e1 : Int, e1 = (balI n (k + 1)).2 := ⟨_, rfl⟩
          have hq : (1 : Int) + (k : Int) / (n : Int) = r1 := by rw [hr1, balI_succ]; simp
          have hq2 : (k : Int) % (n : Int) = e1 := by rw [he1, balI_succ]; simp
          have HQ := Lib.hid hq
          have HQ2 := Lib.hid hq2
          have HA2 := Lib.hid ha'
          have hnn : n = 1 ∨ n = 2 ∨ n = 3 ∨ n = 4 ∨ n = 5 := by omega
          clear hk ha hq hq2 ha'
          go_upto_region 18 with fail
          go_cut [14] (fun p wx => p = .pointer (some ⟨wr.heap.size, 0, none⟩) ∧ (wr.alloc (.cells #[.int .i64 r1, .int .i64 e1] 30)).drew = wx)
          case first =>
            have hq := HQ.out
            have hq2 := HQ2.out
            clear HQ HQ2 HA2
            rcases hnn with rfl | rfl | rfl | rfl | rfl

            · skip
              as_aux_lemma =>
                go_region_held3 (fun _ => True)
                  (first | trivial | go_keep)
                  (first | fail)
                go_wp2_with fail
                go_meet
                exact ⟨rfl, by rw [wq1 k hk12, wr1 k, hq, hq2]⟩
            · skip
              as_aux_lemma =>
                go_region_held3 (fun _ => True)
                  (first | trivial | go_keep)
                  (first | fail)
                go_wp2_with fail
                go_meet
                exact ⟨rfl, by rw [wq2 k hk12, wr2 k, hq, hq2]⟩
            · skip
              as_aux_lemma =>
                go_region_held3 (fun _ => True)
                  (first | trivial | go_keep)
                  (first | fail)
                go_wp2_with fail
                go_meet
                exact ⟨rfl, by rw [wq3 k hk12, wr3 k, hq, hq2]⟩
            · skip
              as_aux_lemma =>
                go_region_held3 (fun _ => True)
                  (first | trivial | go_keep)
                  (first | fail)
                go_wp2_with fail
                go_meet
                exact ⟨rfl, by rw [wq4 k hk12, wr4 k, hq, hq2]⟩
            · skip
              as_aux_lemma =>
                go_region_held3 (fun _ => True)
                  (first | trivial | go_keep)
                  (first | fail)
                go_wp2_with fail
                go_meet
                exact ⟨rfl, by rw [wq5 k hk12, wr5 k, hq, hq2]⟩
          case rest =>
            obtain ⟨rfl, rfl⟩ := hcut
            have bw := (box_below wr (.cells #[.int .i64 r1, .int .i64 e1] 30)).drew
            have KA : Hid (Blk (wr.alloc (.cells #[.int .i64 r1, .int .i64 e1] 30)).drew wr.heap.size 30 #[.int .i64 r1, .int .i64 e1]) := Blk.new wr 30 #[.int .i64 r1, .int .i64 e1]
            have MN := Lib.hid (HN.out.below bw)
            have MT := Lib.hid (HT.out.below bw)
            have f0 := bcell bw d0
            have f1 := bcell bw d1
            have f2 := bcell bw d2
            have MB := Lib.hid (hB.trans (bw.mono hB.size))
            have hbb : wr.heap.size < (wr.alloc (.cells #[.int .i64 r1, .int .i64 e1] 30)).drew.heap.size := KA.out.lt
            have hw9 := hB.size
            generalize (wr.alloc (.cells #[.int .i64 r1, .int .i64 e1] 30)).drew = W2 at *
            obtain ⟨bb, hb8⟩ : ∃ bb, bb = wr.heap.size := ⟨_, rfl⟩
            rw [← hb8] at KA hbb hw9 ⊢
            clear hb8 bw HN HT hB d0 d1 d2
            have k0 := KA.out.cell (i := 0) (v := .int .i64 r1) rfl
            have k1 := KA.out.cell (i := 1) (v := .int .i64 e1) rfl
            have hm1 := tmod_of y n a HA2.out
            have hm2 := HA2.out
            have hm3 : ¬ ((n : Int) = 0) := by omega
            have hm4 : ((n : Int) == 0) = false := by simpa using hm3
            clear HQ HQ2 hnn
            clear hm3 hm4
            obtain ⟨bI, pI, eI, hI⟩ := HI2.out
            obtain ⟨t, ht⟩ : ∃ t, T[k]? = some t := ⟨_, List.getElem?_eq_getElem (by rw [hI.lt]; exact hk12)⟩
            have htold : t.told < 2 ^ n := by have := hI.core.tl k; rwa [tri_at ht] at this
            have hvotes : t.votes < 2 ^ n := by have := hI.core.vl k; rwa [tri_at ht] at this
            obtain ⟨⟨p, m⟩, s, hxa, hsa, hAS, hup1, hup2, g, cap2, hv6, hcap2, hg, hgc⟩ := MN.out.at_ (a := a) (by rw [hI.la]; exact han)
            rw [hI.la] at hv6 hcap2
            simp only at hAS hup1 hup2 hgc
            subst hv6
            obtain ⟨told, bs, br, bd, bv, votes⟩ := t
            have hm6 : TB W2 tb T := MT.out
            have z0 : W2.cell? ⟨tb, k * 6, none⟩ = some (.int .u64 (told : Int)) := hm6.cell ht 0 _ rfl
            have z1 : W2.cell? ⟨tb, k * 6 + 1, none⟩ = some (.int .i64 bs) := hm6.cell ht 1 _ rfl
            have z2 : W2.cell? ⟨tb, k * 6 + 2, none⟩ = some (.int .i64 br) := hm6.cell ht 2 _ rfl
            have z3 : W2.cell? ⟨tb, k * 6 + 3, none⟩ = some (.int .i64 bd) := hm6.cell ht 3 _ rfl
            have z4 : W2.cell? ⟨tb, k * 6 + 4, none⟩ = some (.string bv) := hm6.cell ht 4 _ rfl
            have z5 : W2.cell? ⟨tb, k * 6 + 5, none⟩ = some (.int .u64 (votes : Int)) := hm6.cell ht 5 _ rfl
            have MS := Lib.hid hAS
            have HTK := Lib.hid ht
            have HSA := Lib.hid hsa
            have HXA := Lib.hid hxa
            have HTO := Lib.hid htold
            have HVO := Lib.hid hvotes
            have HIG := Lib.hid hI
            have HR1 := Lib.hid hr1
            have HE1 := Lib.hid he1
            simp only at htold hvotes
            clear hm6 hAS ht hsa hxa htold hvotes hI hr1 he1 HI2
            go_upto_region 24 with (first
              | (go_at_call 37; refine (is_any n told _ ⟨by omega, by omega⟩ HTO.out).mono ?_; rintro e w3 ⟨rfl, b3⟩; have N3 := Lib.hid (MN.out.below b3); have T3 := Lib.hid (MT.out.below b3); have B3 := Lib.hid (MB.out.trans (b3.mono MB.out.size)); have S3 := Lib.hid (MS.out.below b3); have K3 := Lib.hid (KA.out.bel b3); have y0 := bcell b3 z0; have y1 := bcell b3 z1; have y2 := bcell b3 z2; have y3 := bcell b3 z3; have y4 := bcell b3 z4; have y5 := bcell b3 z5; have v0 := bcell b3 k0; have v1 := bcell b3 k1; have g0 := bcell b3 hgc; have f2' := bcell b3 f2; clear b3))
            clear z0 z1 z2 z3 z4 z5 k0 k1 hgc f0 f1 f2 MN MT MS KA MB
            have nbp : ¬ bb = p := K3.out.ne_type S3.out.at_.blk (by decide)
            have ngp : ¬ g = p := row_ne_blk N3.out.row S3.out.at_.blk (by decide) g rfl
            have ntp : ¬ tb = p := Blk.ne_type T3.out S3.out.at_.blk (by decide)
            have nbm : ¬ bb = m := by obtain ⟨es, c, hb⟩ := S3.out.at_.map.block; exact K3.out.ne_map hb
            have ngm : ¬ g = m := by obtain ⟨es, c, hb⟩ := S3.out.at_.map.block; exact row_ne_map N3.out.row hb g rfl
            have ntm : ¬ tb = m := by obtain ⟨es, c, hb⟩ := S3.out.at_.map.block; exact Blk.ne_map T3.out hb
            cases pr with
            | false =>
              by_cases hE0 : prE s r1 e1 0 = 0
              · have HE0 := Lib.hid hE0
                clear hE0
                cases hmj : maj told n with
                | true =>
                  as_aux_lemma =>
                    go_upto_region 25 with fail
                    go_region_held3 (fun W => W.cell? ⟨bb, 0, none⟩ = some (.int .i64 r1) ∧ W.cell? ⟨bb, 1, none⟩ = some (.int .i64 e1) ∧ W.cell? ⟨g, a, none⟩ = some (.pointer (some ⟨p, 0, none⟩)))
                      (first | exact ⟨by assumption, by assumption, by assumption⟩ | go_keep)
                      (first
                        | (go_at_call 18; refine (promise_S p m s _ r1 e1 0 S3.out.drew).mono ?_; rintro e w4 ⟨vm, rfl, r4, t4, f4⟩; rw [HE0.out]; have f4' := Fr.of_drew f4; have F4 := Lib.hid (f4'.mono (S' := S2 p m) (fun i e => .inl e)); have S4 := Lib.hid t4; have R4 := Lib.hid r4; have x0 := f4'.cell (p := ⟨bb, 0, none⟩) nbp v0; have x1 := f4'.cell (p := ⟨bb, 1, none⟩) nbp v1; have j0 := f4'.cell (p := ⟨g, a, none⟩) ngp g0; clear r4 t4 f4 f4'))
                    clear v0 v1 y0 y1 y2 y3 y4 y5 g0 x0 x1 j0
                    have N4 := Lib.hid (N3.out.step HXA.out HSA.out S4.out F4.out)
                    have T4 := Lib.hid (T3.out.fr F4.out (fun e => by rcases e with e | e; exact ntp e; exact ntm e))
                    have B4 := Lib.hid (Fr.upB B3.out F4.out (fun i e => by rcases e with e | e <;> omega))
                    go_wp2_with fail
                    go_roundg (L.length - (i + 1))
                    case measure => omega
                    case rel =>
                      obtain rfl := HR1.out
                      obtain rfl := HE1.out
                      refine ⟨i + 1, _, T, C, by omega, rfl, rfl, by go_num, N4.out, T4.out, ?_, B4.out⟩
                      rw [prS_ok HE0.out]
                      exact HIG.out.prom1 HSA.out hk12 HE0.out
                | false =>
                  as_aux_lemma =>
                    go_upto_region 25 with fail
                    go_region_held3 (fun W => W.cell? ⟨bb, 0, none⟩ = some (.int .i64 r1) ∧ W.cell? ⟨bb, 1, none⟩ = some (.int .i64 e1) ∧ W.cell? ⟨g, a, none⟩ = some (.pointer (some ⟨p, 0, none⟩)))
                      (first | exact ⟨by assumption, by assumption, by assumption⟩ | go_keep)
                      (first
                        | (go_at_call 18; refine (promise_S p m s _ r1 e1 0 S3.out.drew).mono ?_; rintro e w4 ⟨vm, rfl, r4, t4, f4⟩; rw [HE0.out]; have f4' := Fr.of_drew f4; have F4 := Lib.hid (f4'.mono (S' := S2 p m) (fun i e => .inl e)); have S4 := Lib.hid t4; have R4 := Lib.hid r4; have x0 := f4'.cell (p := ⟨bb, 0, none⟩) nbp v0; have x1 := f4'.cell (p := ⟨bb, 1, none⟩) nbp v1; have j0 := f4'.cell (p := ⟨g, a, none⟩) ngp g0; clear r4 t4 f4 f4'))
                    clear v0 v1 y0 y1 y2 y3 y4 y5 g0 x0 x1 j0
                    have N4 := Lib.hid (N3.out.step HXA.out HSA.out S4.out F4.out)
                    have T4 := Lib.hid (T3.out.fr F4.out (fun e => by rcases e with e | e; exact ntp e; exact ntm e))
                    have B4 := Lib.hid (Fr.upB B3.out F4.out (fun i e => by rcases e with e | e <;> omega))
                    have q0 : w4.cell? ⟨tb, k * 6, none⟩ = some (.int .u64 (told : Int)) := T4.out.cell HTK.out 0 _ rfl
                    have qf := T4.out.frozen (k * 6)
                    go_upto_region 27 with fail
                    go_still_tail 9, (by kernel_rfl)
                    go_upto_region 28 with fail
                    have hv := bitor_val hn5 (show told < 2 ^ n from HTO.out) han
                    rw [hv]
                    clear hv
                    obtain ⟨hl0, hlen⟩ := InvG.short (HIG.out.nodes a s HSA.out)
                    have hr4 : EntRow w4 w3.drew.heap.size vm s.L := by have := R4.out; rwa [prL_ok HE0.out, hl0] at this
                    have N5 := Lib.hid ((N4.out.tset T4.out (k * 6) (.int .u64 ((told ||| 2 ^ a : Nat) : Int))).drew)
                    have T5 : Hid (TB (w4.setCell ⟨tb, k * 6, none⟩ (.int .u64 ((told ||| 2 ^ a : Nat) : Int))).drew tb (T.set k ⟨told ||| 2 ^ a, bs, br, bd, bv, votes⟩)) := TB.set T4.out (t' := ⟨told ||| 2 ^ a, bs, br, bd, bv, votes⟩) HTK.out 0 _ (by decide) rfl
                    have R5 := Lib.hid ((hr4.tset T4.out (k * 6) (.int .u64 ((told ||| 2 ^ a : Nat) : Int))).below ((Below.refl _ _).drew))
                    have B5 := Lib.hid ((bel_tset B4.out htb (Nat.le_refl _) (k * 6) (.int .u64 ((told ||| 2 ^ a : Nat) : Int))).drew)
                    clear hr4 q0 qf N4 T4 B4 R4 S4 F4
                    generalize (w4.setCell ⟨tb, k * 6, none⟩ (.int .u64 ((told ||| 2 ^ a : Nat) : Int))).drew = W5 at *
                    have hkl : k < T.length := by rw [HIG.out.lt]; exact hk12
                    have HTK5 : Hid ((T.set k ⟨told ||| 2 ^ a, bs, br, bd, bv, votes⟩)[k]? = some ⟨told ||| 2 ^ a, bs, br, bd, bv, votes⟩) := by rw [Hid, List.getElem?_set]; simp [hkl]
                    have q2 : W5.cell? ⟨tb, k * 6 + 2, none⟩ = some (.int .i64 br) := T5.out.cell HTK5.out 2 _ rfl
                    have q3 : W5.cell? ⟨tb, k * 6 + 3, none⟩ = some (.int .i64 bd) := T5.out.cell HTK5.out 3 _ rfl
                    obtain ⟨Am, km, hvm, hkm, hcm⟩ := R5.out.view
                    rcases hsL : s.L with _ | ⟨⟨zs, f1, f2, f3⟩, _ | ⟨x8, x9⟩⟩
                    · rw [hsL] at hvm
                      simp only [List.length_nil] at hvm
                      subst hvm
                      clear hcm hkm hlen hkl
                      have HSL := Lib.hid hsL
                      clear hsL
                      as_aux_lemma =>
                        go_upto_region 30 with fail
                        refine wp_region_held_drew (S := (fun W => True)) (by kernel_rfl) ?_ (fun hHeld => ?_)
                        · exact trivial
                        try dsimp only at hHeld
                        refine held_yes (i := 0) (some 126) (v := ?_) rfl rfl (by kernel_rfl) (by kernel_rfl) (by kernel_rfl) (fun _ _ _ h => h) (by rfl) ?_ hHeld ?_
                        rotate_left
                        · (intro w hSw; (try dsimp only at hSw); go_simp; all_goals with_reducible rfl)
                        try simp only [Act.put, List.setIfInBounds_toArray, List.set_cons_zero, List.set_cons_succ]
                        refine held_yes (i := 1) (some 127) (v := ?_) rfl rfl (by kernel_rfl) (by kernel_rfl) (by kernel_rfl) (fun _ _ _ h => h) (by rfl) ?_ hHeld ?_
                        rotate_left
                        · (intro w hSw; (try dsimp only at hSw); go_simp; all_goals with_reducible rfl)
                        try simp only [Act.put, List.setIfInBounds_toArray, List.set_cons_zero, List.set_cons_succ]
                        refine held_yes (i := 2) (some 128) (v := ?_) rfl rfl (by kernel_rfl) (by kernel_rfl) (by kernel_rfl) (fun _ _ _ h => h) (by rfl) ?_ hHeld ?_
                        rotate_left
                        · (intro w hSw; (try dsimp only at hSw); go_simp; all_goals with_reducible rfl)
                        try simp only [Act.put, List.setIfInBounds_toArray, List.set_cons_zero, List.set_cons_succ]
                        refine held_yes (i := 3) (some 129) (v := ?_) rfl rfl (by kernel_rfl) (by kernel_rfl) (by kernel_rfl) (fun _ _ _ h => h) (by rfl) ?_ hHeld ?_
                        rotate_left
                        · (intro w hSw; (try dsimp only at hSw); go_simp; all_goals with_reducible rfl)
                        try simp only [Act.put, List.setIfInBounds_toArray, List.set_cons_zero, List.set_cons_succ]
                        refine held_no (i := 4) (some 130) rfl rfl (by kernel_rfl) (by kernel_rfl) (by kernel_rfl) (fun _ _ _ h => h) (wanted_t rfl rfl rfl) hHeld ?_
                        try simp only [Act.put, List.setIfInBounds_toArray, List.set_cons_zero, List.set_cons_succ]
                        refine held_no (i := 5) (some 131) rfl rfl (by kernel_rfl) (by kernel_rfl) (by kernel_rfl) (fun _ _ _ h => h) (wanted_t rfl rfl rfl) hHeld ?_
                        try simp only [Act.put, List.setIfInBounds_toArray, List.set_cons_zero, List.set_cons_succ]
                        refine held_no (i := 6) (some 132) rfl rfl (by kernel_rfl) (by kernel_rfl) (by kernel_rfl) (fun _ _ _ h => h) (wanted_t rfl rfl rfl) hHeld ?_
                        try simp only [Act.put, List.setIfInBounds_toArray, List.set_cons_zero, List.set_cons_succ]
                        refine held_no (i := 7) (some 133) rfl rfl (by kernel_rfl) (by kernel_rfl) (by kernel_rfl) (fun _ _ _ h => h) (wanted_t rfl rfl rfl) hHeld ?_
                        try simp only [Act.put, List.setIfInBounds_toArray, List.set_cons_zero, List.set_cons_succ]
                        refine held_no (i := 8) (some 134) rfl rfl (by kernel_rfl) (by kernel_rfl) (by kernel_rfl) (fun _ _ _ h => h) (wanted_t rfl rfl rfl) hHeld ?_
                        try simp only [Act.put, List.setIfInBounds_toArray, List.set_cons_zero, List.set_cons_succ]
                        refine held_no (i := 9) (some 135) rfl rfl (by kernel_rfl) (by kernel_rfl) (by kernel_rfl) (fun _ _ _ h => h) (wanted_t rfl rfl rfl) hHeld ?_
                        try simp only [Act.put, List.setIfInBounds_toArray, List.set_cons_zero, List.set_cons_succ]
                        refine held_no (i := 10) (some 136) rfl rfl (by kernel_rfl) (by kernel_rfl) (by kernel_rfl) (fun _ _ _ h => h) (wanted_t rfl rfl rfl) hHeld ?_
                        try simp only [Act.put, List.setIfInBounds_toArray, List.set_cons_zero, List.set_cons_succ]
                        refine held_no (i := 11) (some 137) rfl rfl (by kernel_rfl) (by kernel_rfl) (by kernel_rfl) (fun _ _ _ h => h) (wanted_t rfl rfl rfl) hHeld ?_
                        try simp only [Act.put, List.setIfInBounds_toArray, List.set_cons_zero, List.set_cons_succ]
                        refine held_no (i := 12) (some 138) rfl rfl (by kernel_rfl) (by kernel_rfl) (by kernel_rfl) (fun _ _ _ h => h) (wanted_t rfl rfl rfl) hHeld ?_
                        try simp only [Act.put, List.setIfInBounds_toArray, List.set_cons_zero, List.set_cons_succ]
                        refine held_no (i := 13) (some 139) rfl rfl (by kernel_rfl) (by kernel_rfl) (by kernel_rfl) (fun _ _ _ h => h) (wanted_t rfl rfl rfl) hHeld ?_
                        try simp only [Act.put, List.setIfInBounds_toArray, List.set_cons_zero, List.set_cons_succ]
                        refine held_no (i := 14) (some 140) rfl rfl (by kernel_rfl) (by kernel_rfl) (by kernel_rfl) (fun _ _ _ h => h) (wanted_t rfl rfl rfl) hHeld ?_
                        try simp only [Act.put, List.setIfInBounds_toArray, List.set_cons_zero, List.set_cons_succ]
                        refine held_yes (i := 15) (some 141) (v := ?_) rfl rfl (by kernel_rfl) (by kernel_rfl) (by kernel_rfl) (fun _ _ _ h => h) (by rfl) ?_ hHeld ?_
                        rotate_left
                        · (intro w hSw; (try dsimp only at hSw); go_simp; all_goals with_reducible rfl)
                        try simp only [Act.put, List.setIfInBounds_toArray, List.set_cons_zero, List.set_cons_succ]
                        refine wpAnyH_done (by kernel_rfl) ?_ _
                        go_wp2_with fail
                        go_roundg (L.length - (i + 1))
                        case measure => omega
                        case rel =>
                          obtain rfl := HR1.out
                          obtain rfl := HE1.out
                          refine ⟨i + 1, _, _, C, by omega, rfl, rfl, by go_num, N5.out.drew, T5.out.drew, ?_, B5.out.drew⟩
                          rw [prS_ok HE0.out]
                          exact HIG.out.told1 (t := ⟨told, bs, br, bd, bv, votes⟩) HSA.out HTK.out HE0.out hmj (fun x hx => by rw [HSL.out] at hx; simp at hx)
                    · rw [hsL] at hvm hcm
                      simp only [List.length_cons, List.length_nil, Nat.zero_add] at hvm hcm
                      obtain ⟨gm, rfl, _, hgm, hcells⟩ := hcm (by decide)
                      obtain ⟨m1, m2, m3, m4⟩ := hcells 0 _ _ rfl
                      simp only [Nat.zero_mul, Nat.zero_add] at m1 m2 m3 m4
                      subst hvm
                      clear hcells hlen hkl hkm
                      have HSL := Lib.hid hsL
                      clear hsL hcm
                      have hfz := fun i => T5.out.frozen i
                      have ngt : ¬ gm = tb := by
                        have hg := row_ne_blk R5.out T5.out (by decide) gm (by rfl)
                        exact hg
                      by_cases hO : 0 < ordB (f1, f2) (br, bd)
                      · have hO' : decide (ordB (f1, f2) (br, bd) > 0) = true := by simpa using hO
                        have HO := Lib.hid hO
                        clear hO
                        as_aux_lemma =>
                          go_upto_region 30 with fail
                          go_region_held3 (fun W => W.cell? ⟨gm, 1, none⟩ = some (.int .i64 f1) ∧ W.cell? ⟨gm, 2, none⟩ = some (.int .i64 f2) ∧ W.cell? ⟨tb, k * 6 + 2, none⟩ = some (.int .i64 br) ∧ W.cell? ⟨tb, k * 6 + 3, none⟩ = some (.int .i64 bd))
                            (first | exact ⟨by assumption, by assumption, by assumption, by assumption⟩ | go_keep)
                            (first
                              | (go_at_call 21; refine (order_any _ _ _ _ _).mono ?_; rintro e w6 ⟨rfl, b6⟩; have b6' : Below W5.heap.size W5 w6 := (Below.refl _ _).drew.trans (b6.mono (by simp)); have N6 := Lib.hid (N5.out.below b6'); have T6 := Lib.hid (T5.out.below b6'); have R6 := Lib.hid (R5.out.below b6'); have B6 := Lib.hid (B5.out.trans (b6'.mono (bchainSz B5.out))); have l1 := bcell b6' m1; have l2 := bcell b6' m2; have l3 := bcell b6' m3; have l4 := bcell b6' m4; have o2 := bcell b6' q2; have o3 := bcell b6' q3; clear b6 b6'))
                          have hfz6 := fun i => T6.out.frozen i
                          have o1 : w6.cell? ⟨tb, k * 6 + 1, none⟩ = some (.int .i64 bs) := T6.out.cell HTK5.out 1 _ rfl
                          have o4 : w6.cell? ⟨tb, k * 6 + 4, none⟩ = some (.string bv) := T6.out.cell HTK5.out 4 _ rfl
                          clear q2 q3 m1 m2 m3 m4 hfz
                          go_wp2_with fail
                          obtain ⟨T7, N7, B7⟩ := best_set T6.out HTK5.out N6.out B6.out htb zs f1 f2 f3
                          rw [List.set_set] at T7
                          go_roundg (L.length - (i + 1))
                          case measure => omega
                          case rel =>
                            obtain rfl := HR1.out
                            obtain rfl := HE1.out
                            refine ⟨i + 1, _, _, C, by omega, rfl, rfl, by go_num, N7, T7, ?_, B7⟩
                            rw [prS_ok HE0.out]
                            exact HIG.out.told2 (x := (zs, f1, f2, f3)) (t := ⟨told, bs, br, bd, bv, votes⟩) HSA.out HTK.out HE0.out hmj (by rw [HSL.out]; rfl) HO.out
                      · have hO' : decide (ordB (f1, f2) (br, bd) > 0) = false := by simpa using hO
                        have HO := Lib.hid hO
                        clear hO
                        as_aux_lemma =>
                          go_upto_region 30 with fail
                          go_region_held3 (fun W => W.cell? ⟨gm, 1, none⟩ = some (.int .i64 f1) ∧ W.cell? ⟨gm, 2, none⟩ = some (.int .i64 f2) ∧ W.cell? ⟨tb, k * 6 + 2, none⟩ = some (.int .i64 br) ∧ W.cell? ⟨tb, k * 6 + 3, none⟩ = some (.int .i64 bd))
                            (first | exact ⟨by assumption, by assumption, by assumption, by assumption⟩ | go_keep)
                            (first
                              | (go_at_call 21; refine (order_any _ _ _ _ _).mono ?_; rintro e w6 ⟨rfl, b6⟩; have b6' : Below W5.heap.size W5 w6 := (Below.refl _ _).drew.trans (b6.mono (by simp)); have N6 := Lib.hid (N5.out.below b6'); have T6 := Lib.hid (T5.out.below b6'); have R6 := Lib.hid (R5.out.below b6'); have B6 := Lib.hid (B5.out.trans (b6'.mono (bchainSz B5.out))); have l1 := bcell b6' m1; have l2 := bcell b6' m2; have l3 := bcell b6' m3; have l4 := bcell b6' m4; have o2 := bcell b6' q2; have o3 := bcell b6' q3; clear b6 b6'))
                          go_wp2_with fail
                          go_roundg (L.length - (i + 1))
                          case measure => omega
                          case rel =>
                            obtain rfl := HR1.out
                            obtain rfl := HE1.out
                            refine ⟨i + 1, _, _, C, by omega, rfl, rfl, by go_num, N6.out, T6.out, ?_, B6.out⟩
                            rw [prS_ok HE0.out]
                            exact HIG.out.told1 (t := ⟨told, bs, br, bd, bv, votes⟩) HSA.out HTK.out HE0.out hmj (fun x hx => by rw [HSL.out] at hx; simp at hx; subst hx; exact Int.not_lt.2 HO.out)
                    · exfalso
                      rw [hsL] at hlen
                      simp at hlen
              · have HE0 := Lib.hid hE0
                have hne : ((prE s r1 e1 0) == 0) = false := by simpa using hE0
                have hne2 : ((prE s r1 e1 0) != 0) = true := by simpa using hE0
                clear hE0
                as_aux_lemma =>
                  go_upto_region 25 with fail
                  go_region_held3 (fun W => W.cell? ⟨bb, 0, none⟩ = some (.int .i64 r1) ∧ W.cell? ⟨bb, 1, none⟩ = some (.int .i64 e1) ∧ W.cell? ⟨g, a, none⟩ = some (.pointer (some ⟨p, 0, none⟩)))
                    (first | exact ⟨by assumption, by assumption, by assumption⟩ | go_keep)
                    (first
                      | (go_at_call 18; refine (promise_S p m s _ r1 e1 0 S3.out.drew).mono ?_; rintro e w4 ⟨vm, rfl, r4, t4, f4⟩; have f4' := Fr.of_drew f4; have F4 := Lib.hid (f4'.mono (S' := S2 p m) (fun i e => .inl e)); have S4 := Lib.hid t4; have R4 := Lib.hid r4; have x0 := f4'.cell (p := ⟨bb, 0, none⟩) nbp v0; have x1 := f4'.cell (p := ⟨bb, 1, none⟩) nbp v1; have j0 := f4'.cell (p := ⟨g, a, none⟩) ngp g0; clear r4 t4 f4 f4'))
                  clear v0 v1 y0 y1 y2 y3 y4 y5 g0 x0 x1 j0
                  have N4 := Lib.hid (N3.out.step HXA.out HSA.out S4.out F4.out)
                  have T4 := Lib.hid (T3.out.fr F4.out (fun e => by rcases e with e | e; exact ntp e; exact ntm e))
                  have B4 := Lib.hid (Fr.upB B3.out F4.out (fun i e => by rcases e with e | e <;> omega))
                  go_wp2_with fail
                  go_roundg (L.length - (i + 1))
                  case measure => omega
                  case rel =>
                    obtain rfl := HR1.out
                    obtain rfl := HE1.out
                    refine ⟨i + 1, _, T, C, by omega, rfl, rfl, by go_num, N4.out, T4.out, ?_, B4.out⟩
                    rw [prS_no HE0.out, set_self HSA.out]
                    exact ⟨bI, pI, eI, HIG.out⟩
            | true =>
              cases hmj : maj told n with
              | false =>
                go_wp2_with fail
                go_roundg (L.length - (i + 1))
                case measure => omega
                case rel =>
                  obtain rfl := HR1.out
                  obtain rfl := HE1.out
                  exact ⟨i + 1, A, T, C, by omega, rfl, rfl, by go_num, N3.out, T3.out, ⟨bI, pI, eI, HIG.out⟩, B3.out⟩
              | true =>
                go_upto_if 161 with fail
                generalize hzz : (br == 0 && bd == 0) = zz
                have HZZ := Lib.hid hzz
                have hcv := conv1 k w3 hk12
                clear hzz
                go_cut [21] (fun v wx => v = .string (valT ⟨told, bs, br, bd, bv, votes⟩ k) ∧ Below w3.heap.size w3 wx)
                case first =>
                  cases zz with
                  | true =>
                    have hv : valT ⟨told, bs, br, bd, bv, votes⟩ k = ownV k := if_pos (by have := HZZ.out; simpa [Hid] using this)
                    have HVV := Lib.hid hv
                    clear hv HZZ
                    go_wp2_with fail
                    go_meet
                    rw [HVV.out]
                    exact ⟨rfl, box_below _ _⟩
                  | false =>
                    have hv : valT ⟨told, bs, br, bd, bv, votes⟩ k = bv := if_neg (fun h => by have h2 : (br == 0 && bd == 0) = false := HZZ.out; have h1 : br = 0 ∧ bd = 0 := h; rw [h1.1, h1.2] at h2; exact absurd h2 (by decide))
                    have HVV := Lib.hid hv
                    clear hv HZZ hcv
                    go_wp2_with fail
                    go_meet
                    rw [HVV.out]
                    exact ⟨rfl, Below.refl _ _⟩
                case rest =>
                  clear hcv HZZ
                  obtain ⟨rfl, b4⟩ := hcut
                  obtain ⟨w4, rfl⟩ : ∃ w4 : World, w4 = wc := ⟨_, rfl⟩
                  have N4 := Lib.hid (N3.out.below b4)
                  have T4 := Lib.hid (T3.out.below b4)
                  have B4 := Lib.hid (B3.out.trans (b4.mono B3.out.size))
                  have S4 := Lib.hid (S3.out.below b4)
                  have c0 := bcell b4 v0
                  have c1 := bcell b4 v1
                  have j0 := bcell b4 g0
                  have q5 := bcell b4 y5
                  obtain ⟨V, hV⟩ : ∃ V, V = valT ⟨told, bs, br, bd, bv, votes⟩ k := ⟨_, rfl⟩
                  rw [← hV]
                  have HV := Lib.hid hV
                  clear hV b4 v0 v1 g0 y0 y1 y2 y3 y4 y5
                  by_cases hE0 : acE s r1 e1 0 V = 0
                  · have HE0 := Lib.hid hE0
                    clear hE0
                    as_aux_lemma =>
                      go_upto_region 36 with fail
                      go_region_held3 (fun W => W.cell? ⟨bb, 0, none⟩ = some (.int .i64 r1) ∧ W.cell? ⟨bb, 1, none⟩ = some (.int .i64 e1) ∧ W.cell? ⟨g, a, none⟩ = some (.pointer (some ⟨p, 0, none⟩)))
                        (first | exact ⟨by assumption, by assumption, by assumption⟩ | go_keep)
                        (first
                          | (go_at_call 19; refine (accept_S p m s _ r1 e1 0 V S4.out.drew).mono ?_; rintro e w5 ⟨rfl, t5, f5⟩; rw [HE0.out]; have f5' := Fr.of_drew f5; have F5 := Lib.hid f5'; have S5 := Lib.hid t5; have x0 := f5'.cell (p := ⟨bb, 0, none⟩) (fun e => by rcases e with e | e; exact nbp e; exact nbm e) c0; have x1 := f5'.cell (p := ⟨bb, 1, none⟩) (fun e => by rcases e with e | e; exact nbp e; exact nbm e) c1; have x2 := f5'.cell (p := ⟨g, a, none⟩) (fun e => by rcases e with e | e; exact ngp e; exact ngm e) j0; clear t5 f5 f5'))
                      have N5 := Lib.hid (N4.out.step HXA.out HSA.out S5.out F5.out)
                      have T5 := Lib.hid (T4.out.fr F5.out (fun e => by rcases e with e | e; exact ntp e; exact ntm e))
                      have B5 := Lib.hid (Fr.upB B4.out F5.out (fun i e => by rcases e with e | e <;> omega))
                      clear c0 c1 j0 q5 x0 x1 x2
                      have q5 : w5.cell? ⟨tb, k * 6 + 5, none⟩ = some (.int .u64 (votes : Int)) := T5.out.cell HTK.out 5 _ rfl
                      have qf := T5.out.frozen (k * 6 + 5)
                      go_upto_region 37 with fail
                      go_still_tail 9, (by kernel_rfl)
                      go_upto_region 38 with fail
                      have hv := bitor_val hn5 (show votes < 2 ^ n from HVO.out) han
                      rw [hv]
                      clear hv
                      have N6 := Lib.hid ((N5.out.tset T5.out (k * 6 + 5) (.int .u64 ((votes ||| 2 ^ a : Nat) : Int))).drew)
                      have T6 : Hid (TB (w5.setCell ⟨tb, k * 6 + 5, none⟩ (.int .u64 ((votes ||| 2 ^ a : Nat) : Int))).drew tb (T.set k ⟨told, bs, br, bd, bv, votes ||| 2 ^ a⟩)) := TB.set T5.out (t' := ⟨told, bs, br, bd, bv, votes ||| 2 ^ a⟩) HTK.out 5 _ (by decide) rfl
                      have B6 := Lib.hid ((bel_tset B5.out htb (Nat.le_refl _) (k * 6 + 5) (.int .u64 ((votes ||| 2 ^ a : Nat) : Int))).drew)
                      have hvb : votes ||| 2 ^ a < 2 ^ n := bit_lt HVO.out han
                      have HVB := Lib.hid hvb
                      clear q5 qf hvb N5 T5 B5 S5 F5
                      generalize (w5.setCell ⟨tb, k * 6 + 5, none⟩ (.int .u64 ((votes ||| 2 ^ a : Nat) : Int))).drew = W6 at *
                      have hkl : k < T.length := by rw [HIG.out.lt]; exact hk12
                      have HTK6 : Hid ((T.set k ⟨told, bs, br, bd, bv, votes ||| 2 ^ a⟩)[k]? = some ⟨told, bs, br, bd, bv, votes ||| 2 ^ a⟩) := by rw [Hid, List.getElem?_set]; simp [hkl]
                      have z5 : W6.cell? ⟨tb, k * 6 + 5, none⟩ = some (.int .u64 ((votes ||| 2 ^ a : Nat) : Int)) := T6.out.cell HTK6.out 5 _ rfl
                      clear hkl
                      have hvote := HIG.out.vote (t := ⟨told, bs, br, bd, bv, votes⟩) HSA.out HTK.out hmj (by rw [← HR1.out, ← HE1.out, ← HV.out]; exact HE0.out)
                      rw [← HR1.out, ← HE1.out, ← HV.out] at hvote
                      simp only at hvote
                      obtain ⟨hvi, hvc⟩ := hvote
                      have HVI := Lib.hid hvi
                      have HVC := Lib.hid hvc
                      clear hvi hvc
                      obtain ⟨vv, hvv⟩ : ∃ vv, vv = votes ||| 2 ^ a := ⟨_, rfl⟩
                      rw [← hvv] at z5 HVI HVC HVB HTK6 T6
                      clear hvv
                      cases hmv : maj vv n with
                      | false =>
                        have HI9 := HVI.out C (.inl rfl)
                        clear HVI HVC
                        as_aux_lemma =>
                          go_upto_region 41 with (first
                            | (go_at_call 37; refine (is_any n vv _ ⟨by omega, by omega⟩ HVB.out).mono ?_; rw [hmv]; rintro e w7 ⟨rfl, b7⟩; have N7 := Lib.hid (N6.out.below b7); have T7 := Lib.hid (T6.out.below b7); have B7 := Lib.hid (B6.out.trans (b7.mono (bchainSz B6.out))); clear b7))
                          go_wp2_with fail
                          go_roundg (L.length - (i + 1))
                          case measure => omega
                          case rel => exact ⟨i + 1, _, _, _, by omega, rfl, rfl, by go_num, N7.out, T7.out, HI9, B7.out⟩
                      | true =>
                        by_cases hC : C = ⟨#[]⟩
                        · have HI9 := HVI.out V (.inr ⟨hmv, hC, rfl⟩)
                          subst hC
                          clear HVI HVC
                          as_aux_lemma =>
                            go_upto_region 41 with (first
                            | (go_at_call 37; refine (is_any n vv _ ⟨by omega, by omega⟩ HVB.out).mono ?_; rw [hmv]; rintro e w7 ⟨rfl, b7⟩; have N7 := Lib.hid (N6.out.below b7); have T7 := Lib.hid (T6.out.below b7); have B7 := Lib.hid (B6.out.trans (b7.mono (bchainSz B6.out))); clear b7))
                            go_wp2_with fail
                            go_roundg (L.length - (i + 1))
                            case measure => omega
                            case rel => exact ⟨i + 1, _, _, V, by omega, rfl, rfl, by go_num, N7.out, T7.out, HI9, B7.out⟩
                        · have hCV := HVC.out hmv hC
                          subst hCV
                          have HI9 := HVI.out _ (.inl rfl)
                          have hC1 := noEmpty hC
                          clear HVI HVC
                          as_aux_lemma =>
                            go_upto_region 41 with (first
                            | (go_at_call 37; refine (is_any n vv _ ⟨by omega, by omega⟩ HVB.out).mono ?_; rw [hmv]; rintro e w7 ⟨rfl, b7⟩; have N7 := Lib.hid (N6.out.below b7); have T7 := Lib.hid (T6.out.below b7); have B7 := Lib.hid (B6.out.trans (b7.mono (bchainSz B6.out))); clear b7))
                            go_wp2_with fail
                            go_roundg (L.length - (i + 1))
                            case measure => omega
                            case rel => exact ⟨i + 1, _, _, _, by omega, rfl, rfl, by go_num, N7.out, T7.out, HI9, B7.out⟩
                  · have HE0 := Lib.hid hE0
                    have hne : ((acE s r1 e1 0 V) == 0) = false := by simpa using hE0
                    have hne2 : ((acE s r1 e1 0 V) != 0) = true := by simpa using hE0
                    clear hE0
                    as_aux_lemma =>
                      go_upto_region 36 with fail
                      go_region_held3 (fun W => W.cell? ⟨bb, 0, none⟩ = some (.int .i64 r1) ∧ W.cell? ⟨bb, 1, none⟩ = some (.int .i64 e1) ∧ W.cell? ⟨g, a, none⟩ = some (.pointer (some ⟨p, 0, none⟩)))
                        (first | exact ⟨by assumption, by assumption, by assumption⟩ | go_keep)
                        (first
                          | (go_at_call 19; refine (accept_S p m s _ r1 e1 0 V S4.out.drew).mono ?_; rintro e w5 ⟨rfl, t5, f5⟩; have f5' := Fr.of_drew f5; have F5 := Lib.hid f5'; have S5 := Lib.hid t5; have x0 := f5'.cell (p := ⟨bb, 0, none⟩) (fun e => by rcases e with e | e; exact nbp e; exact nbm e) c0; have x1 := f5'.cell (p := ⟨bb, 1, none⟩) (fun e => by rcases e with e | e; exact nbp e; exact nbm e) c1; have x2 := f5'.cell (p := ⟨g, a, none⟩) (fun e => by rcases e with e | e; exact ngp e; exact ngm e) j0; clear t5 f5 f5'))
                      have N5 := Lib.hid (N4.out.step HXA.out HSA.out S5.out F5.out)
                      have T5 := Lib.hid (T4.out.fr F5.out (fun e => by rcases e with e | e; exact ntp e; exact ntm e))
                      have B5 := Lib.hid (Fr.upB B4.out F5.out (fun i e => by rcases e with e | e <;> omega))
                      clear c0 c1 j0 q5 x0 x1 x2
                      go_wp2_with fail
                      go_roundg (L.length - (i + 1))
                      case measure => omega
                      case rel =>
                        refine ⟨i + 1, _, T, C, by omega, rfl, rfl, by go_num, N5.out, T5.out, ?_, B5.out⟩
                        rw [acS_no HE0.out, set_self HSA.out]
                        exact ⟨bI, pI, eI, HIG.out⟩
        · have e : i = L.length := by omega
          subst e
          go_wp2_with (first
            | (go_at_call 13; refine (works_any _).mono ?_; rintro e wk ⟨rfl, bk⟩))
          go_returns
          exact ⟨rfl, hB.trans (bk.mono hB.size)⟩
end Go.Proofs.Ytnbiihnfggcakaa.acceptAgrees
