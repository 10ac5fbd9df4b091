/- The walk of skaldlaw17.StableRecovers: it returns true, and writes nothing that was there. -/
import Derived.Test.YtlfikhblmbidmaaGreatDoorMrgN
import Derived.OpenShut
import Derived.Deep.DeepCutAuto
import Derived.Deep.CutBlock
import Derived.Deep.LoopGhost
import Derived.Deep.RegionHeld3
set_option linter.unusedVariables false
set_option linter.unusedSimpArgs false
namespace Go.Proofs.YtlfikhblmbidmaaGreatDoor.stableRecovers
open Go.RowKit Go.Shelf
set_option maxRecDepth 100000 in
set_option maxHeartbeats 8000000 in
theorem walk (a0 : Int) (a1 : Bool) (v2 : Value) (zs : List Int) (v3 : Value) (L : List (Value × List Int)) (w : World) (w0 : (Lit.int .i64 a0).wf = true) (w2 : BytesIn w v2 zs) (w3 : RecsIn w v3 L) (ht : TabP w) :
    Calls Tryz.prog 6 #[.int .i64 a0, .bool a1, v2, v3] w fun e w' => e = .returned (.bool true) ∧ Below w.heap.size w w' := by
  have HT := Lib.hid (show FoursAt w from ht)
  have HFA : Hid (∀ X : World, Below w.heap.size w X → FoursAt X) := fun X hb => HT.out.below hb
  have H2 := Lib.hid w2.bsIn
  have H3 := Lib.hid w3
  have hbl := bsOf_length zs
  obtain ⟨A2, cap2, rfl, hle2, hm2, _⟩ := id w2
  obtain ⟨A3, cap3, rfl, hle3, hm3, _, _⟩ := id w3
  have hm2' : cap2 ≤ 9223372036854775807 := by unfold maxLen at hm2; omega
  have hm3' : cap3 ≤ 9223372036854775807 := by unfold maxLen at hm3; omega
  clear w0 w2 w3 ht
  go_enter Tryz.func6, Tryz.ntmps6
  go_wp2_with fail
  go_loopw [9, 26] (fun v9 c wr => ∃ (i : Nat) (z : Int), i ≤ L.length ∧ c = .int .i64 (i : Int) ∧ v9 = .int .i64 z ∧ wr = w) (fun _ c _ => L.length - (intOf c).toNat)
  case atStart => exact ⟨0, _, Nat.zero_le _, rfl, rfl, rfl⟩
  case round =>
    obtain ⟨i, z, hi, rfl, rfl, hwr⟩ := hrel
    replace hwr := hwr.symm
    subst hwr
    by_cases hlt : i < L.length
    · obtain ⟨x, hx⟩ : ∃ x, L[i]? = some x := ⟨_, List.getElem?_eq_getElem hlt⟩
      obtain ⟨xv, xs⟩ := x
      obtain ⟨b, off, cap, hA, hcell, hb⟩ := H3.out.at hx
      obtain ⟨rfl, rfl⟩ : A3 = some ⟨b, off, none⟩ ∧ cap3 = cap := by simpa using hA
      obtain ⟨Ax, capx, hxv, hlx, hmx, _⟩ := hb
      have hxv : xv = .slice Ax xs.length capx := hxv
      subst hxv
      have hmx' : capx ≤ 9223372036854775807 := by unfold maxLen at hmx; omega
      clear hx hA
      go_wp2_with fail
      go_roundw
      case rel => exact ⟨i + 1, _, by omega, by go_num, rfl, trivial⟩
      case measure => simp [intOf]; omega
    · have hil : i = L.length := by omega
      subst hil
      by_cases hz : z > 100000 ∨ L.length > 40
      · have HW := Lib.hid (works_any w HT.out)
        by_cases hz1 : z > 100000
        · have hz1' : decide (z > 100000) = true := by simpa using hz1
          clear hz
          go_wp2_with (go_at_call 18; refine HW.out.mono ?_; rintro e x17 ⟨rfl, hb⟩; have B17 := Lib.hid hb; clear hb)
          go_returns
          exact ⟨rfl, B17.out⟩
        · have hz1' : decide (z > 100000) = false := by simpa using hz1
          have hz2' : decide ((L.length : Int) > 40) = true := decide_eq_true (by omega)
          clear hz hz1
          go_wp2_with (go_at_call 18; refine HW.out.mono ?_; rintro e x17 ⟨rfl, hb⟩; have B17 := Lib.hid hb; clear hb)
          go_returns
          exact ⟨rfl, B17.out⟩
      · have hz1' : decide (z > 100000) = false := decide_eq_false (by omega)
        have hz2' : decide ((L.length : Int) > 40) = false := decide_eq_false (by omega)
        have hL : L.length ≤ 40 := by omega
        clear hz
        go_upto_region 10 with (first
          | (go_at_call 14; refine (dnew_any _).mono ?_; rintro e X1 ⟨dp, dq, rfl, hd, hp, hq, hb⟩; have D1 := Lib.hid hd; have B1 := Lib.hid hb; have HP := Lib.hid hp; have HQ := Lib.hid hq; clear hd hp hq hb)
          | (go_at_call 26; refine (rdnew_any _).mono ?_; rintro e X2 ⟨rp, rfl, hr, hp, hb⟩; have T2 := Lib.hid (show TwoD w X2 dp dq (.slice none 0 0) (.slice none 0 0) rp (.slice none 0 0) (.slice none 0 0) newD newD from ⟨D1.out.below hb, hr, bchain B1.out hb, fun j e => (by rcases e with rfl | rfl | e | e; exact HP.out; exact HQ.out; cases e; cases e), fun j e => (by rcases e with rfl | e | e; exact Nat.le_trans B1.out.size hp; cases e; cases e), fun j e e2 => (by have h1 := D1.out.lt e; rcases e2 with rfl | e2 | e2; omega; cases e2; cases e2)⟩); clear hr hp hb))
        clear D1 B1 HP HQ
        go_cut [54] (fun c54 wx => c54 = .bool false ∧ ∃ (dv dsv rv rsv : Value) (ds : DSt), TwoD w wx dp dq dv dsv rp rv rsv ds ds ∧ DGood ds ∧ ds.b.length = 0)
        case first =>
          cases a1 with
          | false =>
            go_wp2_with fail
            go_meet
            exact ⟨rfl, _, _, _, _, _, T2.out, DGood.new, rfl⟩
          | true =>
            by_cases hlen : (bsOf zs).length ≤ 65536
            · have HS1 := Lib.hid (dsave_yes _ _ T2.out.d (H2.out.below T2.out.bel) hlen)
              go_wp2_with (first
                | (go_at_call 27; refine HS1.out.mono ?_; rintro e X3 ⟨rfl, dsv3, hs⟩; have T3 := Lib.hid (T2.out.dstep hs); clear hs)
                | (go_at_call 28; refine (rdsave_yes _ _ T3.out.r (H2.out.below T3.out.bel) hlen).mono ?_; rintro e X4 ⟨rfl, rsv4, hs⟩; have T4 := Lib.hid (T3.out.rstep hs); clear hs))
              go_meet
              exact ⟨rfl, _, _, _, _, _, T4.out, ⟨Nat.le_refl _, by simp, hlen⟩, rfl⟩
            · have hlen' : 65536 < (bsOf zs).length := by omega
              have HS1 := Lib.hid (dsave_long _ _ T2.out.d (H2.out.below T2.out.bel) hlen')
              have HS2 := Lib.hid (rdsave_long _ _ T2.out.r (H2.out.below T2.out.bel) hlen')
              go_wp2_with (first
                | (go_at_call 27; refine HS1.out.mono ?_; rintro e X3 ⟨rfl, rfl⟩)
                | (go_at_call 28; refine HS2.out.mono ?_; rintro e X4 ⟨rfl, rfl⟩))
              go_meet
              exact ⟨rfl, _, _, _, _, _, T2.out, DGood.new, rfl⟩
        case rest =>
        obtain ⟨rfl, dv0, dsv0, rv0, rsv0, ds0, hT, hg, hb0⟩ := hcut
        have T3 := Lib.hid hT
        have G3 := Lib.hid hg
        clear hT hg T2
        go_upto_region 13 with fail
        go_loopw [57] (fun c wr => ∃ (i : Nat) (dv dsv rv rsv : Value) (ds : DSt), i ≤ L.length ∧ c = .int .i64 (i : Int) ∧ TwoD w wr dp dq dv dsv rp rv rsv ds ds ∧ DGood ds ∧ ds.b.length ≤ i * 65544) (fun c _ => L.length - (intOf c).toNat)
        case atStart => exact ⟨0, _, _, _, _, _, Nat.zero_le _, rfl, T3.out, G3.out, by omega⟩
        case round =>
          obtain ⟨i, dv, dsv, rv, rsv, ds, hi, rfl, hT, hg, hbi⟩ := hrel
          rename World => X
          have T := Lib.hid hT
          have G := Lib.hid hg
          clear hT hg T3 G3
          by_cases hlt : i < L.length
          · obtain ⟨x, hx⟩ : ∃ x, L[i]? = some x := ⟨_, List.getElem?_eq_getElem hlt⟩
            obtain ⟨xv, xs⟩ := x
            obtain ⟨b, off, cap, hA, hcell0, hb⟩ := H3.out.at hx
            have hcell := bcell T.out.bel hcell0
            obtain ⟨rfl, rfl⟩ : A3 = some ⟨b, off, none⟩ ∧ cap3 = cap := by simpa using hA
            have HBX0 := Lib.hid hb.bsIn
            have HBX := Lib.hid (HBX0.out.below T.out.bel)
            clear hcell0
            obtain ⟨Ax, capx, hxv, hlx, hmx, _⟩ := hb
            have hxv : xv = .slice Ax xs.length capx := hxv
            subst hxv
            clear hx hA
            by_cases hlen : (bsOf xs).length ≤ 65536
            · have hfit : ds.b.length + 8 + (bsOf xs).length ≤ 16777216 := by omega
              have HW1 := Lib.hid (write_yes _ _ T.out.d G.out (HFA.out _ T.out.bel) HBX.out hlen hfit)
              have hg2 : DGood { ds with b := ds.b ++ frameB (bsOf xs), safe := (ds.b ++ frameB (bsOf xs)).length } := ⟨Nat.le_refl _, by show (ds.b ++ frameB (bsOf xs)).length ≤ _; rw [List.length_append, frameB_length]; omega, G.out.st⟩
              have G2 := Lib.hid hg2
              have hbl2 : (ds.b ++ frameB (bsOf xs)).length ≤ (i + 1) * 65544 := by rw [List.length_append, frameB_length]; omega
              have HBL2 := Lib.hid hbl2
              obtain ⟨ds2, hds2⟩ : ∃ ds2 : DSt, { ds with b := ds.b ++ frameB (bsOf xs), safe := (ds.b ++ frameB (bsOf xs)).length } = ds2 := ⟨_, rfl⟩
              have hds2b : (ds.b ++ frameB (bsOf xs)).length = ds2.b.length := by rw [← hds2]
              have HDS := Lib.hid hds2
              rw [hds2] at HW1 G2
              rw [hds2b] at HBL2
              clear hg2 hbl2 hds2 hds2b
              go_wp2_with (first
                | (go_at_call 16; refine HW1.out.mono ?_; rintro e X3 ⟨rfl, dv3, hs⟩; have T3 := Lib.hid (T.out.dstep hs); have Q3 := Lib.hid (HBX0.out.below T3.out.bel); clear hs)
                | (go_at_call 29; refine (rwrite_yes _ _ T3.out.r G.out Q3.out hlen hfit).mono ?_; rintro e X4 ⟨rfl, rv4, hs⟩; rw [HDS.out] at hs; have T4 := Lib.hid (T3.out.rstep hs); clear hs)
                | (go_at_call 30; refine (dsafe_any T4.out.d).mono ?_; rintro e X5 ⟨rfl, rfl⟩)
                | (go_at_call 31; refine (rdsafe_any T4.out.r).mono ?_; rintro e X6 ⟨rfl, rfl⟩))
              go_roundw
              case rel => exact ⟨i + 1, _, _, _, _, _, hlt, by go_num, T4.out, G2.out, HBL2.out⟩
              case measure => simp [intOf]; omega
            · have hlen' : 65536 < (bsOf xs).length := by omega
              have HBI2 : Hid (ds.b.length ≤ (i + 1) * 65544) := Nat.le_trans hbi (Nat.mul_le_mul_right _ (Nat.le_succ i))
              have HW1 := Lib.hid (dwrite_long _ _ T.out.d HBX.out hlen')
              go_wp2_with (first
                | (go_at_call 16; refine HW1.out.mono ?_; rintro e X3 ⟨rfl, hb3⟩; have T3 := Lib.hid (T.out.below hb3); have Q3 := Lib.hid (HBX0.out.below T3.out.bel); clear hb3)
                | (go_at_call 29; refine (rdwrite_long _ _ T3.out.r Q3.out hlen').mono ?_; rintro e X4 ⟨rfl, hb4⟩; have T4 := Lib.hid (T3.out.below hb4); clear hb4)
                | (go_at_call 30; refine (dsafe_any T4.out.d).mono ?_; rintro e X5 ⟨rfl, rfl⟩)
                | (go_at_call 31; refine (rdsafe_any T4.out.r).mono ?_; rintro e X6 ⟨rfl, rfl⟩))
              go_roundw
              case rel => exact ⟨i + 1, _, _, _, _, _, hlt, by go_num, T4.out, G.out, HBI2.out⟩
              case measure => simp [intOf]; omega
          · have hil : i = L.length := by omega
            clear hlt hbi hi
            subst hil
            by_cases hn : okN a0
            · have HR1 := Lib.hid (recover_all a0 hn T.out.d G.out (HFA.out _ T.out.bel) (fun _ => by have := G.out.st; omega))
              cases ho : recO a0 ds with
              | none =>
                rw [ho] at HR1
                go_wp2_with (first
                  | (go_at_call 15; refine HR1.out.mono ?_; rintro e X3 ⟨hb3, rfl⟩; have T3 := Lib.hid (T.out.below hb3); clear hb3)
                  | (go_at_call 32; refine (rrecover_any a0 hn T3.out.r G.out).mono ?_; intro e X4 hr; rw [ho] at hr; obtain ⟨hb4, rfl⟩ := hr; have T4 := Lib.hid (T3.out.below hb4); clear hb4)
                  | (go_at_call 33; refine (dlen_any T4.out.d).mono ?_; rintro e X5 ⟨rfl, rfl⟩)
                  | (go_at_call 34; refine (rdlen_any T4.out.r).mono ?_; rintro e X6 ⟨rfl, rfl⟩)
                  | (go_at_call 18; refine (works_any _ (HFA.out _ T4.out.bel)).mono ?_; rintro e X7 ⟨rfl, hb⟩; have T7 := Lib.hid (T4.out.below hb); clear hb))
                go_returns
                exact ⟨rfl, T7.out.bel⟩
              | some t =>
                rw [ho] at HR1
                go_wp2_with (first
                  | (go_at_call 15; refine HR1.out.mono ?_; rintro e X3 ⟨hb3, na, nm, nq, nk, rfl, hns, hlo⟩; have T3 := Lib.hid (T.out.below hb3); have N3 := Lib.hid hns; clear hb3 hns hlo)
                  | (go_at_call 32; refine (rrecover_any a0 hn T3.out.r G.out).mono ?_; intro e X4 hr; rw [ho] at hr; obtain ⟨hb4, ra, rav, rq, rlv, rl, rfl, hrn⟩ := hr; have T4 := Lib.hid (T3.out.below hb4); have N4 := Lib.hid (N3.out.below hb4); have R4 := Lib.hid hrn; clear hb4 hrn)
                  | (go_at_call 33; refine (dlen_any T4.out.d).mono ?_; rintro e X5 ⟨rfl, rfl⟩)
                  | (go_at_call 34; refine (rdlen_any T4.out.r).mono ?_; rintro e X6 ⟨rfl, rfl⟩)
                  | (go_at_call 35; refine (alike_any N4.out R4.out).mono ?_; rintro e X7 ⟨rfl, hb⟩; have T7 := Lib.hid (T4.out.below hb); clear hb)
                  | (go_at_call 18; refine (works_any _ (HFA.out _ T7.out.bel)).mono ?_; rintro e X8 ⟨rfl, hb⟩; have T8 := Lib.hid (T7.out.below hb); clear hb))
                go_returns
                exact ⟨rfl, T8.out.bel⟩
            · have HR1 := Lib.hid (recover_badQ a0 hn T.out.d G.out)
              go_wp2_with (first
                | (go_at_call 15; refine HR1.out.mono ?_; rintro e X3 ⟨rfl, hb3⟩; have T3 := Lib.hid (T.out.below hb3); clear hb3)
                | (go_at_call 32; refine (rrecover_bad a0 hn).mono ?_; rintro e X4 ⟨rfl, rfl⟩)
                | (go_at_call 33; refine (dlen_any T3.out.d).mono ?_; rintro e X5 ⟨rfl, rfl⟩)
                | (go_at_call 34; refine (rdlen_any T3.out.r).mono ?_; rintro e X6 ⟨rfl, rfl⟩)
                | (go_at_call 18; refine (works_any _ (HFA.out _ T3.out.bel)).mono ?_; rintro e X7 ⟨rfl, hb⟩; have T7 := Lib.hid (T3.out.below hb); clear hb))
              go_returns
              exact ⟨rfl, T7.out.bel⟩
end Go.Proofs.YtlfikhblmbidmaaGreatDoor.stableRecovers
