/- The walk of skaldlaw25.ChosenApart: it returns true, and writes nothing that was there. -/
import Derived.Test.YthkdmpalhdifbaaGreatDoorApartP
import Derived.Test.YthkdmpalhdifbaaGreatDoorStabE
import Derived.Test.YthkdmpalhdifbaaGreatDoorCloV
import Derived.Test.YthkdmpalhdifbaaGreatDoorChoX
import Derived.OpenShut
import Derived.Deep.DeepCutAuto
import Derived.Deep.CutBlock
import Derived.Deep.LoopGhost
import Derived.Deep.RegionHeld3
set_option linter.unusedVariables false
set_option linter.unusedSimpArgs false
namespace Go.Proofs.YthkdmpalhdifbaaGreatDoor.chosenApart
open Go.RowKit Go.Shelf

theorem convB (k : Nat) (W : World) (b : Nat) (hk : k < 4) (hc : W.cell? ⟨b, 0, none⟩ = some (.int .u8 (97 + (k : Int)))) : (convert 68 9 (.slice (some ⟨b, 0, none⟩) 1 1)).run Tryz.prog W = .ok (.string (abc k)) W := by
  have e : strOfNums [97 + (k : Int)] = abc k := by
    have : ∀ k : Fin 4, strOfNums [97 + ((k.val : Nat) : Int)] = abc k.val := by decide +kernel
    exact this ⟨k, hk⟩
  rw [← e]
  refine run_convert_bytes_arg _ _ _ Tryz.underlying68 Tryz.underlying5 b 0 1 1 [97 + (k : Int)] (by simp) (fun i hi => ?_) _ Tryz.underlying9
  have : i = 0 := by omega
  subst this
  exact hc
theorem chkR {n r d : Nat} (hn : 1 ≤ n ∧ n ≤ 7) (hr : 1 ≤ r ∧ r ≤ 7) (hd : d < n) : chkE n (r : Int) (d : Int) = 0 := by
  unfold chkE
  rw [if_neg (by omega), if_neg (by omega), if_neg (by omega)]
set_option maxRecDepth 100000 in
set_option maxHeartbeats 4000000 in
theorem walk (x : Int) (v : Value) (zs : List Nat) (y z : Int) (W : World) (w0 : (Lit.int .u8 x).wf = true) (w1 : NumsIn W v zs) (w2 : (Lit.int .u8 y).wf = true) (w3 : (Lit.int .u8 z).wf = true) (ht : TabP W) :
    Calls Tryz.prog 5 #[.int .u8 x, v, .int .u8 y, .int .u8 z] W fun e w' => e = .returned (.bool true) ∧ Below W.heap.size W w' := by
  obtain ⟨x, hx256, rfl⟩ := u8_nat w0
  obtain ⟨y, hy256, rfl⟩ := u8_nat w2
  obtain ⟨z, hz256, rfl⟩ := u8_nat w3
  have HN := Lib.hid w1
  have hw := @works_any
  have HW := Lib.hid hw
  obtain ⟨n, hn⟩ : ∃ n : Nat, n = 1 + x % 7 := ⟨_, rfl⟩
  have hn7 : 1 ≤ n ∧ n ≤ 7 := by omega
  have hxn : (1 : Int) + (x : Int) % 7 = (n : Int) := by omega
  obtain ⟨sn, hsn⟩ : ∃ sn : Nat, sn = y % 3 := ⟨_, rfl⟩
  have hs3 : sn < 3 := by omega
  have hyn : (y : Int) % 3 = (sn : Int) := by omega
  obtain ⟨rd, hrd⟩ : ∃ rd : Nat, rd = 1 + z % 7 := ⟨_, rfl⟩
  have hr7 : 1 ≤ rd ∧ rd ≤ 7 := by omega
  have hzn : (1 : Int) + (z : Int) % 7 = (rd : Int) := by omega
  obtain ⟨dn, hdn⟩ : ∃ dn : Nat, dn = z / 8 % n := ⟨_, rfl⟩
  have hdl : dn < n := by rw [hdn]; exact Nat.mod_lt _ (by omega)
  have hzd : ((z : Int) / 8).tmod (n : Int) = (dn : Int) := by
    rw [Int.tmod_eq_emod_of_nonneg (by omega), hdn, show (z : Int) / 8 = ((z / 8 : Nat) : Int) by omega]
    exact (Int.natCast_emod _ _).symm
  obtain ⟨k, hk⟩ : ∃ k : Nat, k = y / 3 % 4 := ⟨_, rfl⟩
  have hk4 : k < 4 := by omega
  have hyk : ((y : Int) / 3) % 4 = (k : Int) := by omega
  have hn0 : ¬ n = 0 := by omega
  have hCK := chkR hn7 hr7 hdl
  have CK := Lib.hid hCK
  clear w0 w1 w2 w3 ht hw hn hsn hrd hdn hk hCK
  go_enter Tryz.func5, Tryz.ntmps5
  go_upto_region 3 with (go_at_call 25; refine (votes_any n v zs _ HN.out hn7).mono ?_; rintro e w1 ⟨vo, L, rfl, r1, o1, b1⟩; have R1 := Lib.hid r1; have OK := Lib.hid o1; have B1 := Lib.hid b1; clear r1 o1 b1)
  have bs0 := box_below w1 (.cells #[.int .i64 (sn : Int)] 3)
  have KS := Lib.hid (Blk.new w1 3 #[.int .i64 (sn : Int)])
  have R2 := Lib.hid (VtRow.below R1.out bs0)
  have B2 := Lib.hid (bchain B1.out bs0)
  generalize (w1.alloc (.cells #[.int .i64 (sn : Int)] 3)) = W2 at *
  obtain ⟨bs, hbs⟩ : ∃ b, b = w1.heap.size := ⟨_, rfl⟩
  rw [← hbs] at KS ⊢
  have hbl : bs < W2.heap.size := KS.out.lt
  obtain ⟨A, hA, hAO, hL⟩ := OK.out.gather hn7
  have HA := Lib.hid hA
  have HAO := Lib.hid hAO
  have V2 := Lib.hid (votesIn_row R2.out)
  have HOKK : Hid (∀ x ∈ L, okK x) := fun x hx => by have := (alone_r hn7 (OK.out.poss.al x hx)).1; exact ⟨this.1, by omega⟩
  have S2 := Lib.hid (KS.out.cell (i := 0) (v := .int .i64 (sn : Int)) rfl)
  have hLb : L.length ≤ 4294967296 := by omega
  have hsr : (decide ((sn : Int) ≥ 0) && decide ((sn : Int) < 4096)) = true := by simp; omega
  have HSR := Lib.hid hsr
  clear hbs hA hAO R1 B1 bs0 hsr
  go_upto_region 4 with (first
    | (go_at_call 14; refine (clone_any vo L _ V2.out hL).mono ?_; rintro e w3 ⟨v1, rfl, h3, b3⟩; have G3 := Lib.hid h3; have G3V := Lib.hid (votesIn_row h3); have B3 := Lib.hid b3; have S3 := Lib.hid (bcell b3 S2.out); clear h3 b3)
    | (go_at_call 26; refine (deleteFunc_any v1 L W2.heap.size bs (sn : Int) _ G3.out G3V.out B3.out.size hLb S3.out hbl).mono ?_; rintro e w4 ⟨va, rfl, h4, b4⟩; have A4 := Lib.hid h4; have D4 := Lib.hid (B3.out.trans b4); clear h4 b4))
  have V4 := Lib.hid (V2.out.below D4.out)
  have B4 := Lib.hid (bchain B2.out D4.out)
  have S4 := Lib.hid (bcell D4.out S2.out)
  have KS4 := Lib.hid (KS.out.fr (Fr.of_below D4.out : Fr S0 _ _) (fun h => h))
  clear G3 G3V B3 S3 D4 V2 S2 KS R2
  have hb4 : bs < w4.heap.size := KS4.out.lt
  go_upto_region 6 with (first
    | (go_at_call 14; refine (clone_any vo L _ V4.out hL).mono ?_; rintro e w5 ⟨v2, rfl, h5, b5⟩; have G5 := Lib.hid h5; have B5 := Lib.hid b5; clear h5 b5)
    | (go_at_call 28; refine (sortStable_row v2 L w4.heap.size _ G5.out B5.out.size hLb HOKK.out).mono ?_; rintro e w6 ⟨RR, rfl, hsrt, h6, b6⟩; have SRT := Lib.hid hsrt; have Z6 := Lib.hid h6; have D6 := Lib.hid (B5.out.trans b6); clear hsrt h6 b6))
  have V6 := Lib.hid (V4.out.below D6.out)
  have A6 := Lib.hid (A4.out.below D6.out)
  have B6 := Lib.hid (bchain B4.out D6.out)
  have KS6 := Lib.hid (KS4.out.fr (Fr.of_below D6.out : Fr S0 _ _) (fun h => h))
  have LA := Lib.hid (alike_alone OK.out (sn : Int))
  have LS := Lib.hid (alike_sorted OK.out SRT.out (sn : Int))
  clear G5 B5 D6 V4 A4 B4 S4 KS4
  go_upto_region 7 with fail
  have bs1 := box_below w6 (.cells #[.int .i64 (rd : Int), .int .i64 (dn : Int)] 24)
  have KB := Lib.hid (Blk.new w6 24 #[.int .i64 (rd : Int), .int .i64 (dn : Int)])
  have V7 := Lib.hid (V6.out.below bs1)
  have A7 := Lib.hid (A6.out.below bs1)
  have Z7 := Lib.hid (Z6.out.below bs1)
  have B7 := Lib.hid (bchain B6.out bs1)
  have KS7 := Lib.hid (KS6.out.fr (Fr.of_below bs1 : Fr S0 _ _) (fun h => h))
  generalize (w6.alloc (.cells #[.int .i64 (rd : Int), .int .i64 (dn : Int)] 24)) = W7 at *
  obtain ⟨bb, hbb⟩ : ∃ b, b = w6.heap.size := ⟨_, rfl⟩
  rw [← hbb] at KB ⊢
  have hcv := convB k (W7.alloc (.cells #[.int .u8 (97 + (k : Int))] 5)) W7.heap.size hk4 (Blk.cell (Blk.new W7 5 #[.int .u8 (97 + (k : Int))]) rfl)
  clear hbb bs1 V6 A6 Z6 B6 KS6
  go_upto_region 8 with fail
  have bs2 := box_below W7 (.cells #[.int .u8 (97 + (k : Int))] 5)
  have V8 := Lib.hid (V7.out.below bs2)
  have A8 := Lib.hid (A7.out.below bs2)
  have Z8 := Lib.hid (Z7.out.below bs2)
  have B8 := Lib.hid (bchain B7.out bs2)
  have KS8 := Lib.hid (KS7.out.fr (Fr.of_below bs2 : Fr S0 _ _) (fun h => h))
  have KB8 := Lib.hid (KB.out.fr (Fr.of_below bs2 : Fr S0 _ _) (fun h => h))
  generalize (W7.alloc (.cells #[.int .u8 (97 + (k : Int))] 5)) = W8 at *
  clear bs2 V7 A7 Z7 B7 KS7 KB hcv
  obtain ⟨cv, cq, hcf⟩ : ∃ cv cq, chosenF n L (sn : Int) = (cv, cq, 0) := by
    have h0 := (chosen_congr hn7 OK.out.poss LA.out.poss LA.out.mem HSR.out).2
    exact ⟨_, _, Prod.ext rfl (Prod.ext rfl h0)⟩
  have HCF := Lib.hid hcf
  obtain ⟨sb, hsb⟩ : ∃ sb, safeL n A (sn : Int) (abc k) (sortB (belowL A (sn : Int) ((rd : Int), (dn : Int)))).reverse = sb := ⟨_, rfl⟩
  have HSB := Lib.hid hsb
  have hz0 : (((rd : Int) == 0) && ((dn : Int) == 0)) = false := by
    have : ((rd : Int) == 0) = false := by rw [beq_eq_false_iff_ne]; omega
    rw [this]; rfl
  have HZ := Lib.hid hz0
  have hkey : ∀ M, Alike n L M (sn : Int) → ∃ B, (gwalk n [] [] 0 M).1 = some B ∧ chosenF n M (sn : Int) = (cv, cq, 0) ∧ safeL n B (sn : Int) (abc k) (sortB (belowL B (sn : Int) ((rd : Int), (dn : Int)))).reverse = sb := fun M hM => by
    obtain ⟨B, b1, hB⟩ := poss_gather hn7 hM.poss
    refine ⟨B, by rw [b1], ?_, ?_⟩
    · rw [← hcf]
      exact (chosen_congr hn7 OK.out.poss hM.poss hM.mem HSR.out).1
    · rw [← hsb]
      exact safe_congr hn7 OK.out.poss hM.poss HAO.out hB hM.mem _ _
  have KEY := Lib.hid hkey
  clear hcf hsb hz0 hkey
  have s8 := KS8.out.cell (i := 0) (v := .int .i64 (sn : Int)) rfl
  go_upto_region 9 with (go_at_call 17; refine (chosen_any n vo L (sn : Int) _ V8.out hn7 hL).mono ?_; rw [HCF.out]; rintro e w9 ⟨rfl, b9⟩; have V9 := Lib.hid (V8.out.below b9); have A9 := Lib.hid (A8.out.below b9); have Z9 := Lib.hid (Z8.out.below b9); have B9 := Lib.hid (bchain B8.out b9); have KS9 := Lib.hid (KS8.out.fr (Fr.of_below b9 : Fr S0 _ _) (fun h => h)); have KB9 := Lib.hid (KB8.out.fr (Fr.of_below b9 : Fr S0 _ _) (fun h => h)); clear b9)
  clear s8 V8 A8 Z8 B8 KS8 KB8
  have s9 := KS9.out.cell (i := 0) (v := .int .i64 (sn : Int)) rfl
  have x0 := KB9.out.cell (i := 0) (v := .int .i64 (rd : Int)) rfl
  have x1 := KB9.out.cell (i := 1) (v := .int .i64 (dn : Int)) rfl
  go_upto_region 10 with (go_at_call 10; refine (safe_main n vo L A (rd : Int) (dn : Int) (sn : Int) (abc k) _ V9.out hn7 hL HA.out HZ.out CK.out HSR.out).mono ?_; rw [HSB.out]; rintro e w10 ⟨rfl, b10⟩; have A10 := Lib.hid (A9.out.below b10); have Z10 := Lib.hid (Z9.out.below b10); have B10 := Lib.hid (bchain B9.out b10); have KS10 := Lib.hid (KS9.out.fr (Fr.of_below b10 : Fr S0 _ _) (fun h => h)); have KB10 := Lib.hid (KB9.out.fr (Fr.of_below b10 : Fr S0 _ _) (fun h => h)); clear b10)
  clear s9 x0 x1 V9 A9 Z9 B9 KS9 KB9
  obtain ⟨ea, la, ca, hva⟩ : ∃ a l c, va = .slice a l c := by
    obtain ⟨a, c, h, _⟩ := A10.out
    exact ⟨a, _, c, h⟩
  obtain ⟨ez, lz, cz, hvz⟩ : ∃ a l c, v2 = .slice a l c := by
    obtain ⟨a, c, h, _⟩ := Z10.out
    exact ⟨a, _, c, h⟩
  subst hva hvz
  go_wp2_with fail
  have bs3 := box_below w10 (.cells #[.slice ea la ca, .slice ez lz cz] 22)
  have KM := Lib.hid (Blk.new w10 22 #[.slice ea la ca, .slice ez lz cz])
  have A11 := Lib.hid (A10.out.below bs3)
  have Z11 := Lib.hid (Z10.out.below bs3)
  have B11 := Lib.hid (bchain B10.out bs3)
  have KS11 := Lib.hid (KS10.out.fr (Fr.of_below bs3 : Fr S0 _ _) (fun h => h))
  have KB11 := Lib.hid (KB10.out.fr (Fr.of_below bs3 : Fr S0 _ _) (fun h => h))
  generalize (w10.alloc (.cells #[.slice ea la ca, .slice ez lz cz] 22)) = W11 at *
  obtain ⟨bm, hbm⟩ : ∃ b, b = w10.heap.size := ⟨_, rfl⟩
  rw [← hbm] at KM ⊢
  clear hbm bs3 A10 Z10 B10 KS10 KB10
  go_loopg [89] 2 (fun g c wr => ∃ i : Nat, i ≤ 2 ∧ g = 2 - i ∧ c = .int .i64 (i : Int) ∧ Below W11.heap.size W11 wr)
  case atStart => exact ⟨0, by omega, by omega, rfl, Below.refl _ _⟩
  case round =>
    obtain ⟨i, hi, rfl, rfl, hB⟩ := hrel
    obtain ⟨wo, rfl⟩ : ∃ wo : World, wo = wr := ⟨_, rfl⟩
    have B := Lib.hid hB
    have C := Lib.hid (bchain B11.out hB)
    clear hB
    by_cases hlt : i < 2
    case neg =>
      have hge : 2 ≤ i := by omega
      go_wp2_with (go_at_call 8; refine (HW.out _).mono ?_; rintro e w15 ⟨rfl, b15⟩; have B15 := Lib.hid (bchain C.out b15); clear b15)
      go_returns
      exact ⟨rfl, B15.out⟩
    case pos =>
    obtain ⟨vm, M, hcell, hvm, hal⟩ : ∃ vm M, wo.cell? ⟨bm, i, none⟩ = some vm ∧ VotesIn wo vm M ∧ Alike n L M (sn : Int) := by
      have hk := KM.out.fr (Fr.of_below B.out : Fr S0 _ _) (fun h => h)
      rcases (show i = 0 ∨ i = 1 by omega) with rfl | rfl
      · exact ⟨_, _, hk.cell (i := 0) rfl, A11.out.below B.out, LA.out⟩
      · exact ⟨_, _, hk.cell (i := 1) rfl, Z11.out.below B.out, LS.out⟩
    obtain ⟨BM, hg, hc, hs⟩ := KEY.out M hal
    have HG := Lib.hid hg
    have HC := Lib.hid hc
    have HS := Lib.hid hs
    have HVM := Lib.hid hvm
    have hML := hal.len
    have KSo := Lib.hid (KS11.out.fr (Fr.of_below B.out : Fr S0 _ _) (fun h => h))
    have KBo := Lib.hid (KB11.out.fr (Fr.of_below B.out : Fr S0 _ _) (fun h => h))
    have s8 := KSo.out.cell (i := 0) (v := .int .i64 (sn : Int)) rfl
    clear hg hc hs hvm hal
    go_upto_region 16 with (go_at_call 17; refine (chosen_any n vm M (sn : Int) _ HVM.out hn7 hML).mono ?_; rw [HC.out]; rintro e w9 ⟨rfl, b9⟩; have V9 := Lib.hid (HVM.out.below b9); have B9 := Lib.hid b9; have KS9 := Lib.hid (KSo.out.fr (Fr.of_below b9 : Fr S0 _ _) (fun h => h)); have KB9 := Lib.hid (KBo.out.fr (Fr.of_below b9 : Fr S0 _ _) (fun h => h)); clear b9)
    clear s8 hcell
    have s9 := KS9.out.cell (i := 0) (v := .int .i64 (sn : Int)) rfl
    have x0 := KB9.out.cell (i := 0) (v := .int .i64 (rd : Int)) rfl
    have x1 := KB9.out.cell (i := 1) (v := .int .i64 (dn : Int)) rfl
    go_wp2_with (go_at_call 10; refine (safe_main n vm M BM (rd : Int) (dn : Int) (sn : Int) (abc k) _ V9.out hn7 hML HG.out HZ.out CK.out HSR.out).mono ?_; rw [HS.out]; rintro e w10 ⟨rfl, b10⟩; have B12 := Lib.hid (bchain B.out (bchain B9.out b10)); clear b10)
    go_roundg (2 - (i + 1))
    case measure => omega
    case rel => exact ⟨i + 1, by omega, rfl, by go_num, B12.out⟩
end Go.Proofs.YthkdmpalhdifbaaGreatDoor.chosenApart
