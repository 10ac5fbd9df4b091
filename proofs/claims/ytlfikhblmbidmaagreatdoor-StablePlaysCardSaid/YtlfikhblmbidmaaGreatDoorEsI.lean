import Derived.Test.YtlfikhblmbidmaaGreatDoorEsO
set_option linter.all false
namespace Go.Proofs.YtlfikhblmbidmaaGreatDoor
open Go.RowKit Go.Maps Go.Shelf Go.Sort
abbrev kV (x : Et) : Int := x.r * 8 + x.d
abbrev okK (x : Et) : Prop := 0 ≤ x.d ∧ x.d < 8
abbrev cmpV : Value := .func (.func 163) #[] #[]
theorem ord_key {a b c d : Int} (hb : 0 ≤ b ∧ b < 8) (hd : 0 ≤ d ∧ d < 8) : decide (ordB (a, b) (c, d) < 0) = decide (a * 8 + b - (c * 8 + d) < 0) := by
 have h := ordB_lt_iff (a, b) (c, d)
 by_cases e : ordB (a, b) (c, d) < 0
 ·rw [decide_eq_true e, decide_eq_true]
  have := h.1 e
  simp only at this
  omega
 ·rw [decide_eq_false e, decide_eq_false]
  intro k
  refine e (h.2 ?_)
  show a < c ∨ a = c ∧ b < d
  omega
set_option maxRecDepth 100000 in
theorem cmpV_any (xs xr xd : Int) (xv : ByteArray) (ys yr yd : Int) (yv : ByteArray) (w : World) (hx : 0 ≤ xd ∧ xd < 8) (hy : 0 ≤ yd ∧ yd < 8) :
  Calls Tryz.prog 163 #[.agg #[.int .i64 xs, .int .i64 xr, .int .i64 xd, .string xv], .agg #[.int .i64 ys, .int .i64 yr, .int .i64 yd, .string yv]] w fun e w' => ∃ c : Int, e = .returned (.int .i64 c) ∧ decide (c < 0) = decide (xr * 8 + xd - (yr * 8 + yd) < 0) ∧ Below w.heap.size w w' := by
 have hk := Lib.hid (ord_key (a := xr) (c := yr) hx hy)
 have kx := Blk.new w 128 #[.int .i64 xs, .int .i64 xr, .int .i64 xd, .string xv]
 have by0 := box_below (w.alloc (.cells #[.int .i64 xs, .int .i64 xr, .int .i64 xd, .string xv] 128)) (.cells #[.int .i64 ys, .int .i64 yr, .int .i64 yd, .string yv] 128)
 have ky := Blk.new (w.alloc (.cells #[.int .i64 xs, .int .i64 xr, .int .i64 xd, .string xv] 128)) 128 #[.int .i64 ys, .int .i64 yr, .int .i64 yd, .string yv]
 have x1 := bcell by0 (kx.cell (i := 1) (v := .int .i64 xr) rfl)
 have x2 := bcell by0 (kx.cell (i := 2) (v := .int .i64 xd) rfl)
 have y1 := ky.cell (i := 1) (v := .int .i64 yr) rfl
 have y2 := ky.cell (i := 2) (v := .int .i64 yd) rfl
 have HB := Lib.hid (bchain (box_below w (.cells #[.int .i64 xs, .int .i64 xr, .int .i64 xd, .string xv] 128)) by0)
 clear by0 kx ky hx hy
 go_enter Tryz.func163, Tryz.ntmps163
 go_wp2_with (go_at_call 121; refine (order_any _ _ _ _ _).mono ?_; rintro e w3 ⟨rfl, b3⟩; have HB3 := Lib.hid (bchain HB.out b3); clear b3)
 go_returns
 exact ⟨_, rfl, hk.out, HB3.out⟩
theorem RowE.swap {w : World} {g : Nat} {L : List Et} (h : RowE encEt w g L) {i j : Nat} {x y : Et} (hi : L[i]? = some x) (hj : L[j]? = some y) :
  ∃ W1 W2, (storeVar 128 ⟨g, i * 4, none⟩ (etV y)).run Tryz.prog w.drew = .ok () W1 ∧ (storeVar 128 ⟨g, j * 4, none⟩ (etV x)).run Tryz.prog W1 = .ok () W2 ∧ RowE encEt W2 g ((L.set i y).set j x) ∧ Fr (S1 g) w W2 := by
 have hil := (List.getElem?_eq_some_iff.1 hi).1
 have hjl := (List.getElem?_eq_some_iff.1 hj).1
 have R1 := h.drew.store evl hil y
 exact ⟨_, _, h.drew.put hil y, R1.put (i := j) (by rw [List.length_set]; exact hjl) x, R1.store evl (i := j) (by rw [List.length_set]; exact hjl) x, (((Fr.refl (S1 g) w).drew).trans (fr_setCellsK g _ _ _)).trans (fr_setCellsK g _ _ _)⟩
theorem set_two {α : Type} {A B : List α} {p x : α} : ((A ++ p :: x :: B).set (A.length + 1) p).set A.length x = A ++ x :: p :: B := by
 rw [List.set_append_right _ _ (by omega), show A.length + 1 - A.length = 1 by omega, List.set_append_right _ _ (Nat.le_refl _), Nat.sub_self]
 rfl
theorem set_two' {α : Type} {A B : List α} {p x : α} : ((A ++ p :: x :: B).set A.length x).set (A.length + 1) p = A ++ x :: p :: B := by
 rw [List.set_append_right _ _ (Nat.le_refl _), Nat.sub_self, List.set_append_right _ _ (by omega), show A.length + 1 - A.length = 1 by omega]
 rfl
def Srtd (U : List Et) (R : List Et) : Prop := KSame kV U R ∧ KSort kV R
set_option maxRecDepth 100000 in
set_option maxHeartbeats 4000000 in
theorem insertion_any (g cap N : Nat) (P U S : List Et) (w : World) (h : RowE encEt w g (P ++ U ++ S)) (hN : N = P.length + U.length + S.length) (hcap : N ≤ cap) (hm : cap ≤ maxLen) (hbig : N ≤ 4294967296) (hok : ∀ x ∈ U, okK x) (a b : Nat) (ha : a = P.length) (hb : b = P.length + U.length) :
  Calls Tryz.prog 226 #[.slice (some ⟨g, 0, none⟩) N cap, .int .i64 (a : Int), .int .i64 (b : Int), cmpV] w fun e w' => ∃ R, e = .returned (.tuple #[]) ∧ Srtd U R ∧ RowE encEt w' g (P ++ R ++ S) ∧ Fr (S1 g) w w' := by
 have hml : cap ≤ 9223372036854775807 := by unfold maxLen at hm; omega
 by_cases hu0 : U.length = 0
 ·obtain rfl : U = [] := List.length_eq_zero_iff.1 hu0
  have H := Lib.hid h
  have hba : b = a := by simp at hb; omega
  subst hba
  have hN9 : b ≤ 4294967296 := by simp at hN hb; omega
  clear h hN hm hok ha hb hu0
  go_enter Tryz.func226, Tryz.ntmps226
  go_wp2_with fail
  go_loopg [8] 0 (fun gh c wr => c = .int .i64 ((b : Int) + 1) ∧ gh = 0 ∧ wr = w)
  case atStart => exact ⟨rfl, rfl, rfl⟩
  case round =>
   obtain ⟨rfl, rfl, rfl⟩ := hrel
   go_wp2_with fail
   go_end0
   exact ⟨[], rfl, ⟨KSame.refl _, KSort.nil⟩, H.out, Fr.refl _ _⟩
 obtain ⟨lu, hlu⟩ : ∃ l, U.length = l := ⟨_, rfl⟩
 obtain ⟨ls, hls⟩ : ∃ l, S.length = l := ⟨_, rfl⟩
 have hu1 : 0 < lu := by omega
 have hN1 : N = a + lu + ls := by omega
 have hb1 : b = a + lu := by omega
 obtain ⟨u, U', hUU⟩ : ∃ u U', U = u :: U' := by
  cases U with
  | nil => simp at hu0
  | cons u U' => exact ⟨u, U', rfl⟩
 have h0 : Hid (RowE encEt w g (P ++ [u] ++ U' ++ S)) := by rw [hUU] at h; rw [Hid]; simpa using h
 have HK0 : Hid (KSame kV U ([u] ++ U')) := by rw [Hid, hUU]; exact KSame.refl _
 have HA := Lib.hid ha
 have HLU := Lib.hid hlu
 have HLS := Lib.hid hls
 have HOK := Lib.hid hok
 have HUU := Lib.hid hUU
 have hlu' : U'.length = lu - 1 := by rw [hUU] at hlu; simp at hlu; omega
 have HLU' := Lib.hid hlu'
 have HBL := Lib.hid hb1
 have hlub : lu = b - a := by omega
 have HLB := Lib.hid hlub
 have hab0 : a < b := by omega
 have HN := Lib.hid hN1
 have hab : b ≤ N := by omega
 have hN9 : N ≤ 9223372036854775807 := by omega
 clear h hN hm hok ha hb hu0 hlu hls hUU hlu' hN1 hb1 hlub
 go_enter Tryz.func226, Tryz.ntmps226
 go_wp2_with fail
 go_loopg [8] (b - (a + 1)) (fun gh c wr => ∃ (I : Nat) (R T : List Et), I ≤ b ∧ a < I ∧ gh = b - I ∧ c = .int .i64 (I : Int) ∧ R.length = I - a ∧ T.length = b - I ∧ KSame kV U (R ++ T) ∧ KSort kV R ∧ RowE encEt wr g (P ++ R ++ T ++ S) ∧ Fr (S1 g) w wr)
 case atStart => exact ⟨a + 1, [u], U', by omega, by omega, by omega, by go_num, by simp, by rw [HLU'.out, HLB.out]; omega, HK0.out, KSort.one _, h0.out, Fr.refl _ _⟩
 case round =>
  obtain ⟨I, R, T, hI, haI, rfl, rfl, hrl, htl, hks, hsr, hrow, hfr⟩ := hrel
  obtain ⟨wo, rfl⟩ : ∃ wo : World, wo = wr := ⟨_, rfl⟩
  have HR := Lib.hid hrl
  have HT := Lib.hid htl
  have KS := Lib.hid hks
  have SR := Lib.hid hsr
  have RW := Lib.hid hrow
  have F := Lib.hid hfr
  clear hrl htl hks hsr hrow hfr h0 HK0
  by_cases hlt : I < b
  case neg =>
   have e : T = [] := List.length_eq_zero_iff.1 (by rw [HT.out]; omega)
   have R2 : Hid (RowE encEt wo g (P ++ R ++ S)) := by have := RW.out; rw [e] at this; rw [Hid]; simpa using this
   have K2 : Hid (Srtd U R) := by have := KS.out; rw [e, List.append_nil] at this; exact ⟨this, SR.out⟩
   have hge : b ≤ I := by omega
   go_wp2_with fail
   go_end0
   exact ⟨R, rfl, K2.out, R2.out, F.out⟩
  case pos =>
  obtain ⟨x, T', hTT⟩ : ∃ x T', T = x :: T' := by
   cases T with
   | nil => have := HT.out; simp at this; omega
   | cons x T' => exact ⟨x, T', rfl⟩
  have hok : ∀ y ∈ R ++ T, okK y := fun y hy => HOK.out y (KS.out.perm.mem_iff.2 hy)
  have HOKx : Hid (okK x) := hok x (by rw [hTT]; simp)
  have HOKR : Hid (∀ y ∈ R, okK y) := fun y hy => hok y (by simp [hy])
  have R0 : Hid (RowE encEt wo g (P ++ R ++ x :: [] ++ T' ++ S)) := by have := RW.out; rw [hTT] at this; rw [Hid]; simpa using this
  have KS0 : Hid (KSame kV U (R ++ [x] ++ T')) := by have := KS.out; rw [hTT] at this; rw [Hid]; simpa using this
  have hT' : T'.length = b - (I + 1) := by have := HT.out; rw [hTT] at this; simp at this; omega
  have HT' := Lib.hid hT'
  clear hTT hok hT' KS RW HT
  go_upto_region 3 with fail
  go_wp2_with fail
  go_loopg [9] I (fun gh c wr => ∃ (J : Nat) (R1 R2 : List Et), J ≤ I ∧ a ≤ J ∧ J = gh ∧ c = .int .i64 (J : Int) ∧ R1.length = J - a ∧ R = R1 ++ R2 ∧ (∀ y ∈ R2, kV x < kV y) ∧ RowE encEt wr g (P ++ R1 ++ x :: R2 ++ T' ++ S) ∧ Fr (S1 g) w wr)
  case atStart => exact ⟨I, R, [], Nat.le_refl _, by omega, rfl, rfl, HR.out, by simp, by simp, R0.out, F.out⟩
  case round =>
   obtain ⟨J, R1, R2, hJI, haJ, rfl, rfl, hr1, hrr, hgt, hrow, hfr⟩ := hrel
   obtain ⟨wi, rfl⟩ : ∃ wi : World, wi = wr := ⟨_, rfl⟩
   have HR1 := Lib.hid hr1
   have HRR := Lib.hid hrr
   have HGT := Lib.hid hgt
   have RW := Lib.hid hrow
   have FI := Lib.hid hfr
   clear hr1 hrr hgt hrow hfr R0 F
   by_cases hJa : a < J
   case neg =>
    have e : R1 = [] := List.length_eq_zero_iff.1 (by rw [HR1.out]; omega)
    have hm1 : MergeS kV R [x] (R1 ++ x :: R2) := by
     have hsr := SR.out
     rw [HRR.out] at hsr ⊢
     exact MergeS.oneR hsr (by rw [e]; simp) HGT.out
    have K2 : Hid (KSame kV U ((R1 ++ x :: R2) ++ T')) := KS0.out.trans (hm1.1.append (KSame.refl _))
    have S2 : Hid (KSort kV (R1 ++ x :: R2)) := hm1.2
    have L2 : Hid ((R1 ++ x :: R2).length = I + 1 - a) := by
     have h1 := HR.out
     rw [HRR.out, List.length_append] at h1
     rw [Hid, List.length_append, List.length_cons]
     omega
    have RW2 : Hid (RowE encEt wi g (P ++ (R1 ++ x :: R2) ++ T' ++ S)) := by have := RW.out; rw [Hid]; simpa using this
    have hd : decide ((J : Int) > (a : Int)) = false := by rw [decide_eq_false_iff_not]; omega
    have hd2 : decide (a < J) = false := by rw [decide_eq_false_iff_not]; omega
    clear hm1 e
    go_upto_region 4 with fail
    refine wp_region_held_drew (S := (fun W => True)) (by kernel_rfl) ?_ (fun hHeld => ?_)
    ·exact trivial
    try dsimp only at hHeld
    refine hY 0 (some 18) hHeld ?_
    refine hY 1 (some 19) hHeld ?_
    refine hY 2 (some 20) hHeld ?_
    refine hY 3 (some 21) hHeld ?_
    refine hN 4 (some 22) (wanted_t rfl rfl rfl) hHeld ?_
    refine hN 5 (some 23) (wanted_t rfl rfl rfl) hHeld ?_
    refine hN 6 (some 24) (wanted_t rfl rfl rfl) hHeld ?_
    refine hN 7 (some 25) (wanted_t rfl rfl rfl) hHeld ?_
    refine hN 8 (some 26) (wanted_t rfl rfl rfl) hHeld ?_
    refine hN 9 (some 27) (wanted_t rfl rfl rfl) hHeld ?_
    refine hN 10 (some 28) (wanted_t rfl rfl rfl) hHeld ?_
    refine hN 11 (some 29) (wanted_t rfl rfl rfl) hHeld ?_
    refine hN 12 (some 30) (wanted_t rfl rfl rfl) hHeld ?_
    refine hN 13 (some 31) (wanted_t rfl rfl rfl) hHeld ?_
    refine hN 14 (some 32) (wanted_t rfl rfl rfl) hHeld ?_
    refine hN 15 (some 33) (wanted_t rfl rfl rfl) hHeld ?_
    refine hY 16 (some 34) hHeld ?_
    refine wpAnyH_done (by kernel_rfl) ?_ _
    go_wp2_with fail
    go_roundg (b - (I + 1))
    case measure => omega
    case rel => exact ⟨I + 1, _, T', by omega, by omega, rfl, by go_num, L2.out, HT'.out, K2.out, S2.out, RW2.out.drew, FI.out.drew⟩
   case pos =>
   obtain ⟨R1', y, hRy⟩ : ∃ R1' y, R1 = R1' ++ [y] := by
    have hne : R1 ≠ [] := fun e => by have := HR1.out; rw [e] at this; simp at this; omega
    exact ⟨R1.dropLast, R1.getLast hne, (List.dropLast_concat_getLast hne).symm⟩
   have hl1 : R1'.length = J - 1 - a := by have := HR1.out; rw [hRy] at this; simp at this; omega
   have hpl : (P ++ R1').length = J - 1 := by rw [List.length_append, hl1, ← HA.out]; omega
   obtain ⟨jp, hjp⟩ : ∃ jp, J - 1 = jp := ⟨_, rfl⟩
   obtain ⟨M, hM⟩ : ∃ M, (P ++ R1') ++ y :: x :: (R2 ++ T' ++ S) = M := ⟨_, rfl⟩
   have RM : RowE encEt wi g M := by rw [← hM]; have := RW.out; rw [hRy] at this; simpa using this
   have hMx : M[J]? = some x := by
    rw [← hM, List.getElem?_append_right (by omega), hpl, show J - (J - 1) = 1 by omega]; rfl
   have hMy : M[jp]? = some y := by
    rw [← hM, List.getElem?_append_right (by omega), hpl, hjp, Nat.sub_self]; rfl
   have hyR : y ∈ R := by rw [HRR.out, hRy]; simp
   obtain ⟨p0, p1, p2, p3⟩ := RM.five hMx
   obtain ⟨q0, q1, q2, q3⟩ := RM.five hMy
   have HL1 := Lib.hid hl1
   have HRy := Lib.hid hRy
   have HRM := Lib.hid RM
   have HMx := Lib.hid hMx
   have HMy := Lib.hid hMy
   have HMM := Lib.hid hM
   have HPL := Lib.hid hpl
   obtain ⟨lt, hlt2⟩ : ∃ lt, decide (kV x - kV y < 0) = lt := ⟨_, rfl⟩
   have HLT := Lib.hid hlt2
   have HOKy := Lib.hid (HOKR.out y hyR)
   have hJN : J < N := by omega
   have hjN : jp < N := by omega
   have hJ1 : (J : Int) - 1 = (jp : Int) := by omega
   have hw1 : IntKind.i64.wrap (jp : Int) = (jp : Int) := by rw [IntKind.wrap_i64]; omega
   have hd : decide ((J : Int) > (a : Int)) = true := by rw [decide_eq_true_eq]; omega
   have hd2 : decide (a < J) = true := by rw [decide_eq_true_eq]; omega
   have HJP := Lib.hid hjp
   clear hl1 hpl hM hRy RM hMx hMy hyR hlt2 hjp
   obtain ⟨xs, xr, xd, xv⟩ := x
   obtain ⟨ys, yr, yd, yv⟩ := y
   simp only at p0 p1 p2 p3 q0 q1 q2 q3
   have HLT2 : Hid (decide ((xr * 8 + xd) - (yr * 8 + yd) < 0) = lt) := HLT.out
   go_upto_region 4 with fail
   go_cut [34] (fun c wx => c = .bool lt ∧ wi.grownBy wx none)
   case first =>
    go_region_held3 (fun W => W.cell? ⟨g, J * 4, none⟩ = some (.int .i64 xs) ∧ W.cell? ⟨g, J * 4 + 1, none⟩ = some (.int .i64 xr) ∧ W.cell? ⟨g, J * 4 + 2, none⟩ = some (.int .i64 xd) ∧ W.cell? ⟨g, J * 4 + 3, none⟩ = some (.string xv) ∧ W.cell? ⟨g, jp * 4, none⟩ = some (.int .i64 ys) ∧ W.cell? ⟨g, jp * 4 + 1, none⟩ = some (.int .i64 yr) ∧ W.cell? ⟨g, jp * 4 + 2, none⟩ = some (.int .i64 yd) ∧ W.cell? ⟨g, jp * 4 + 3, none⟩ = some (.string yv))
     (first | exact ⟨by assumption, by assumption, by assumption, by assumption, by assumption, by assumption, by assumption, by assumption⟩ | exact ⟨bcell B4.out p0, bcell B4.out p1, bcell B4.out p2, bcell B4.out p3, bcell B4.out q0, bcell B4.out q1, bcell B4.out q2, bcell B4.out q3⟩ | go_keep)
     (first | (go_at_call 163; refine (cmpV_any xs xr xd xv ys yr yd yv _ HOKx.out HOKy.out).mono ?_; rintro e w4 ⟨c4, rfl, hc4, b4⟩; have HC4 := Lib.hid hc4; clear hc4; have B4 := Lib.hid (bdrew2 b4); clear b4))
    go_wp2_with fail
    go_meet
    exact ⟨by rw [← HLT2.out, ← HC4.out], bel_grown B4.out⟩
   case rest =>
   obtain ⟨rfl, hgc⟩ := hcut
   obtain ⟨w5, rfl⟩ : ∃ w5 : World, w5 = wc := ⟨_, rfl⟩
   have f5 : Fr S0 wi w5 := Fr.of_grown hgc (fun i e => by cases e)
   have RM5 := HRM.out.fr f5 (fun h => h)
   have F5 := Lib.hid (FI.out.trans (f5.mono (fun i h => h.elim)))
   clear p0 p1 p2 p3 q0 q1 q2 q3 hgc
   cases lt with
   | false =>
    have hle : (yr * 8 + yd) ≤ (xr * 8 + xd) := by have := of_decide_eq_false HLT2.out; omega
    have hm1 : MergeS kV R [⟨xs, xr, xd, xv⟩] (R1 ++ ⟨xs, xr, xd, xv⟩ :: R2) := by
     have hsr := SR.out
     rw [HRR.out] at hsr ⊢
     refine MergeS.oneR hsr (fun z hz => ?_) HGT.out
     rw [HRy.out] at hz hsr
     have h2 := (KSort.append.1 (KSort.append.1 hsr).1).2.2
     rcases List.mem_append.1 hz with hz | hz
     ·have := h2 z hz ⟨ys, yr, yd, yv⟩ (by simp)
      simp only [kV] at this ⊢
      omega
     ·rw [List.mem_singleton] at hz
      subst hz
      exact hle
    have K2 : Hid (KSame kV U ((R1 ++ ⟨xs, xr, xd, xv⟩ :: R2) ++ T')) := KS0.out.trans (hm1.1.append (KSame.refl _))
    have S2 : Hid (KSort kV (R1 ++ ⟨xs, xr, xd, xv⟩ :: R2)) := hm1.2
    have L2 : Hid ((R1 ++ (⟨xs, xr, xd, xv⟩ : Et) :: R2).length = I + 1 - a) := by
     have h1 := HR.out
     rw [HRR.out, List.length_append] at h1
     rw [Hid, List.length_append, List.length_cons]
     omega
    have RW2 : Hid (RowE encEt w5 g (P ++ (R1 ++ ⟨xs, xr, xd, xv⟩ :: R2) ++ T' ++ S)) := by have := RM5; rw [← HMM.out] at this; rw [Hid, HRy.out]; simpa using this
    clear hm1 RM5 hle
    go_wp2_with fail
    go_roundg (b - (I + 1))
    case measure => omega
    case rel => exact ⟨I + 1, _, T', by omega, by omega, rfl, by go_num, L2.out, HT'.out, K2.out, S2.out, RW2.out, F5.out⟩
   | true =>
    have hgt2 : (xr * 8 + xd) < (yr * 8 + yd) := by have := of_decide_eq_true HLT2.out; omega
    obtain ⟨W1, W2, s1, s2, rm2, f2⟩ := RM5.swap HMx.out HMy.out
    have hset : (M.set J ⟨ys, yr, yd, yv⟩).set jp ⟨xs, xr, xd, xv⟩ = (P ++ R1') ++ ⟨xs, xr, xd, xv⟩ :: ⟨ys, yr, yd, yv⟩ :: (R2 ++ T' ++ S) := by
     have h1 := HPL.out
     have h2 := HJP.out
     rw [← HMM.out, ← h2, ← h1, show J = (P ++ R1').length + 1 by omega]
     exact set_two
    rw [hset] at rm2
    have RW2 : Hid (RowE encEt W2 g (P ++ R1' ++ ⟨xs, xr, xd, xv⟩ :: (⟨ys, yr, yd, yv⟩ :: R2) ++ T' ++ S)) := by rw [Hid]; simpa using rm2
    have F2 : Hid (Fr (S1 g) w W2) := F5.out.trans f2
    obtain ⟨p0, p1, p2, p3⟩ := RM5.five HMx.out
    obtain ⟨q0, q1, q2, q3⟩ := RM5.five HMy.out
    simp only at p0 p1 p2 p3 q0 q1 q2 q3
    have S1' := Lib.hid s1
    have S2' := Lib.hid s2
    have HRR2 : Hid (R = R1' ++ (⟨ys, yr, yd, yv⟩ :: R2)) := by rw [Hid, HRR.out, HRy.out]; simp
    have HGT2 : Hid (∀ z ∈ (⟨ys, yr, yd, yv⟩ : Et) :: R2, kV ⟨xs, xr, xd, xv⟩ < kV z) := fun z hz => by
     rcases List.mem_cons.1 hz with rfl | hz
     ·exact hgt2
     ·exact HGT.out z hz
    have HL2 : Hid (R1'.length = jp - a) := by rw [Hid, HL1.out, ← HJP.out]
    clear s1 s2 rm2 f2 hset RM5 hgt2
    go_upto_region 6 with fail
    refine wp_region_held_drew (S := (fun W => True)) (by kernel_rfl) ?_ (fun hHeld => ?_)
    ·exact trivial
    try dsimp only at hHeld
    refine hY 0 (some 37) hHeld ?_
    refine hY 1 (some 38) hHeld ?_
    refine hY 2 (some 39) hHeld ?_
    refine hY 3 (some 40) hHeld ?_
    refine hY 4 (some 41) hHeld ?_
    refine hY 5 (some 42) hHeld ?_
    refine hY 6 (some 43) hHeld ?_
    refine hY 7 (some 44) hHeld ?_
    refine hY 8 (some 45) hHeld ?_
    refine hY 10 (some 47) hHeld ?_
    refine hY 11 (some 48) hHeld ?_
    refine hY 12 (some 49) hHeld ?_
    refine wpAnyH_ready (rs := [9, 13]) (by kernel_rfl) (by simp) ?_
    refine (AllReadyH.cons rfl (fun K' hK' => ?_) (AllReadyH.cons rfl (fun K' hK' => ?_) AllReadyH.nil))
    ·go_simp
     refine hK'.out _ _ ?_ (fun hHeld => ?_)
     ·trivial
     clear hK' K'
     try dsimp only at hHeld
     try simp only [Act.put, List.setIfInBounds_toArray, List.set_cons_zero, List.set_cons_succ]
     refine wpAnyH_ready (rs := [13]) (by kernel_rfl) (by simp) ?_
     refine (AllReadyH.cons rfl (fun K' hK' => ?_) AllReadyH.nil)
     go_simp
     refine hK'.out _ _ ?_ (fun hHeld => ?_)
     ·trivial
     clear hK' K'
     try dsimp only at hHeld
     try simp only [Act.put, List.setIfInBounds_toArray, List.set_cons_zero, List.set_cons_succ]
     refine hY 14 (some 51) hHeld ?_
     refine wpAnyH_ready (rs := [15]) (by kernel_rfl) (by simp) ?_
     refine (AllReadyH.cons rfl (fun K' hK' => ?_) AllReadyH.nil)
     (refine step_str rfl _ _ _ rfl rfl rfl S1'.out ?_)
     refine hK'.out _ _ ?_ (fun hHeld => ?_)
     ·trivial
     clear hK' K'
     try dsimp only at hHeld
     try simp only [Act.put, List.setIfInBounds_toArray, List.set_cons_zero, List.set_cons_succ]
     refine hY 16 (some 52) hHeld ?_
     refine wpAnyH_ready (rs := [17]) (by kernel_rfl) (by simp) ?_
     refine (AllReadyH.cons rfl (fun K' hK' => ?_) AllReadyH.nil)
     (refine step_str rfl _ _ _ rfl rfl rfl S2'.out ?_)
     refine hK'.out _ _ ?_ (fun hHeld => ?_)
     ·trivial
     clear hK' K'
     try dsimp only at hHeld
     try simp only [Act.put, List.setIfInBounds_toArray, List.set_cons_zero, List.set_cons_succ]
     refine wpAnyH_done (by kernel_rfl) ?_ _
     (go_wp2_with fail; go_roundg jp; (case measure => omega); (case rel => exact ⟨jp, R1', _, by omega, by omega, rfl, rfl, HL2.out, HRR2.out, HGT2.out, RW2.out, F2.out⟩))
    ·go_simp
     refine hK'.out _ _ ?_ (fun hHeld => ?_)
     ·trivial
     clear hK' K'
     try dsimp only at hHeld
     try simp only [Act.put, List.setIfInBounds_toArray, List.set_cons_zero, List.set_cons_succ]
     refine wpAnyH_ready (rs := [9]) (by kernel_rfl) (by simp) ?_
     refine (AllReadyH.cons rfl (fun K' hK' => ?_) AllReadyH.nil)
     go_simp
     refine hK'.out _ _ ?_ (fun hHeld => ?_)
     ·trivial
     clear hK' K'
     try dsimp only at hHeld
     try simp only [Act.put, List.setIfInBounds_toArray, List.set_cons_zero, List.set_cons_succ]
     refine hY 14 (some 51) hHeld ?_
     refine wpAnyH_ready (rs := [15]) (by kernel_rfl) (by simp) ?_
     refine (AllReadyH.cons rfl (fun K' hK' => ?_) AllReadyH.nil)
     (refine step_str rfl _ _ _ rfl rfl rfl S1'.out ?_)
     refine hK'.out _ _ ?_ (fun hHeld => ?_)
     ·trivial
     clear hK' K'
     try dsimp only at hHeld
     try simp only [Act.put, List.setIfInBounds_toArray, List.set_cons_zero, List.set_cons_succ]
     refine hY 16 (some 52) hHeld ?_
     refine wpAnyH_ready (rs := [17]) (by kernel_rfl) (by simp) ?_
     refine (AllReadyH.cons rfl (fun K' hK' => ?_) AllReadyH.nil)
     (refine step_str rfl _ _ _ rfl rfl rfl S2'.out ?_)
     refine hK'.out _ _ ?_ (fun hHeld => ?_)
     ·trivial
     clear hK' K'
     try dsimp only at hHeld
     try simp only [Act.put, List.setIfInBounds_toArray, List.set_cons_zero, List.set_cons_succ]
     refine wpAnyH_done (by kernel_rfl) ?_ _
     (go_wp2_with fail; go_roundg jp; (case measure => omega); (case rel => exact ⟨jp, R1', _, by omega, by omega, rfl, rfl, HL2.out, HRR2.out, HGT2.out, RW2.out, F2.out⟩))
end Go.Proofs.YtlfikhblmbidmaaGreatDoor