import Derived.Test.YtlfikhblmbidmaaGreatDoorEsS
set_option linter.all false
namespace Go.Proofs.YtlfikhblmbidmaaGreatDoor
open Go.RowKit Go.Maps Go.Shelf Go.Sort
set_option maxRecDepth 100000 in
set_option maxHeartbeats 4000000 in
theorem symOneR (g cap N : Nat) (P U S : List Et) (v : Et) (w : World) (h : RowE encEt w g (P ++ U ++ [v] ++ S)) (hN : N = P.length + U.length + 1 + S.length) (hcap : N ≤ cap) (hm : cap ≤ maxLen) (hbig : N ≤ 4294967296) (h2 : 2 ≤ U.length) (hv : okK v) (hok : ∀ x ∈ U, okK x) (hu : KSort kV U) (a m b : Nat) (ha : a = P.length) (hmm : m = a + U.length) (hb : b = m + 1) :
  Calls Tryz.prog 227 #[.slice (some ⟨g, 0, none⟩) N cap, .int .i64 (a : Int), .int .i64 (m : Int), .int .i64 (b : Int), cmpV] w fun e w' => ∃ R, e = .returned (.tuple #[]) ∧ MergeS kV U [v] R ∧ RowE encEt w' g (P ++ R ++ S) ∧ Fr (S1 g) w w' := by
 have hml : cap ≤ 9223372036854775807 := by unfold maxLen at hm; omega
 have H := Lib.hid h
 have HV := Lib.hid hv
 have HOK := Lib.hid hok
 have HSU := Lib.hid hu
 have HA := Lib.hid ha
 have hul : U.length = m - a := by omega
 have HB := Lib.hid hul
 have hbN : b ≤ N := by omega
 have ham : a + 2 ≤ m := by omega
 have hne : ((m : Int) - (a : Int) == 1) = false := by rw [beq_eq_false_iff_ne]; omega
 have hne2 : ¬ (m : Int) - (a : Int) = 1 := by omega
 have hbm : (b : Int) - (m : Int) = 1 := by omega
 have hmb : m < b := by omega
 clear h hN hm hv hok hu ha hmm hb hul h2
 go_enter Tryz.func227, Tryz.ntmps227
 go_wp2_with fail
 go_loopg [14, 15] (m - a) (fun gh ci cj wr => ∃ (I J : Nat), a ≤ I ∧ I ≤ J ∧ J ≤ m ∧ gh = J - I ∧ ci = .int .i64 (I : Int) ∧ cj = .int .i64 (J : Int) ∧ (I - a = 0 ∨ ∃ y, U[I - a - 1]? = some y ∧ kV y ≤ kV v) ∧ (U.length ≤ J - a ∨ ∃ y, U[J - a]? = some y ∧ kV v < kV y) ∧ RowE encEt wr g (P ++ U ++ [v] ++ S) ∧ Fr (S1 g) w wr)
 case atStart => exact ⟨a, m, Nat.le_refl _, by omega, Nat.le_refl _, rfl, rfl, rfl, .inl (Nat.sub_self _), .inl (by rw [HB.out]; exact Nat.le_refl _), H.out, Fr.refl _ _⟩
 case round =>
  obtain ⟨I, J, haI, hIJ, hJm, rfl, rfl, rfl, hlo, hhi, hrow, hfr⟩ := hrel
  obtain ⟨wo, rfl⟩ : ∃ wo : World, wo = wr := ⟨_, rfl⟩
  have LO := Lib.hid hlo
  have HI := Lib.hid hhi
  have RW := Lib.hid hrow
  have F := Lib.hid hfr
  clear hlo hhi hrow hfr H
  by_cases hlt : I < J
  case pos =>
   obtain ⟨H, hH⟩ : ∃ H, (I + J) / 2 = H := ⟨_, rfl⟩
   have hHI : I ≤ H ∧ H < J := by omega
   have hHz : ((I : Int) + (J : Int)) / 2 = (H : Int) := by omega
   obtain ⟨x, hx⟩ : ∃ x, U[H - a]? = some x := ⟨_, List.getElem?_eq_getElem (by rw [HB.out]; omega)⟩
   have hMx : (P ++ U ++ [v] ++ S)[H]? = some x := by
    have := at_in (A := P) (V := U) (S := [v] ++ S) (i := a) (j := H) HA.out.symm (by omega) hx
    simpa using this
   have hMv : (P ++ U ++ [v] ++ S)[m]? = some v := by
    have := at_mid (A := P ++ U) (B := S) (x := v) (i := m) (by rw [List.length_append, HB.out, ← HA.out]; omega)
    simpa using this
   obtain ⟨p0, p1, p2, p3⟩ := RW.out.five hMv
   obtain ⟨q0, q1, q2, q3⟩ := RW.out.five hMx
   have HOKx := Lib.hid (HOK.out x (List.mem_of_getElem? hx))
   have HX := Lib.hid hx
   obtain ⟨lt, hlt2⟩ : ∃ lt, decide (kV v - kV x < 0) = lt := ⟨_, rfl⟩
   have HLT0 := Lib.hid hlt2
   have hHN : H < N := by omega
   have hmN : m < N := by omega
   have HH := Lib.hid hH
   clear hH hx hMx hMv hlt2
   obtain ⟨xs, xr, xd, xv⟩ := x
   obtain ⟨us, ur, ud, uv⟩ := v
   simp only at p0 p1 p2 p3 q0 q1 q2 q3
   have HLT : Hid (decide ((ur * 8 + ud) - (xr * 8 + xd) < 0) = lt) := HLT0.out
   go_upto_region 17 with fail
   go_cut [103] (fun c wx => c = .bool (!lt) ∧ wo.grownBy wx none)
   case first =>
    go_region_held3 (fun W => W.cell? ⟨g, m * 4, none⟩ = some (.int .i64 us) ∧ W.cell? ⟨g, m * 4 + 1, none⟩ = some (.int .i64 ur) ∧ W.cell? ⟨g, m * 4 + 2, none⟩ = some (.int .i64 ud) ∧ W.cell? ⟨g, m * 4 + 3, none⟩ = some (.string uv) ∧ W.cell? ⟨g, H * 4, none⟩ = some (.int .i64 xs) ∧ W.cell? ⟨g, H * 4 + 1, none⟩ = some (.int .i64 xr) ∧ W.cell? ⟨g, H * 4 + 2, none⟩ = some (.int .i64 xd) ∧ W.cell? ⟨g, H * 4 + 3, none⟩ = some (.string xv))
     (first | exact ⟨by assumption, by assumption, by assumption, by assumption, by assumption, by assumption, by assumption, by assumption⟩ | exact ⟨bcell B4.out p0, bcell B4.out p1, bcell B4.out p2, bcell B4.out p3, bcell B4.out q0, bcell B4.out q1, bcell B4.out q2, bcell B4.out q3⟩ | go_keep)
     (first | (go_at_call 163; refine (cmpV_any us ur ud uv xs xr xd xv _ HV.out HOKx.out).mono ?_; rintro e w4 ⟨c4, rfl, hc4, b4⟩; have HC4 := Lib.hid hc4; clear hc4; have B4 := Lib.hid (bdrew2 b4); clear b4))
    go_wp2_with fail
    go_meet
    exact ⟨by rw [← HLT.out, ← HC4.out], bel_grown B4.out⟩
   case rest =>
   obtain ⟨rfl, hgc⟩ := hcut
   obtain ⟨w5, rfl⟩ : ∃ w5 : World, w5 = wc := ⟨_, rfl⟩
   have f5 : Fr S0 wo w5 := Fr.of_grown hgc (fun i e => by cases e)
   have R5 := Lib.hid (RW.out.fr f5 (fun h => h))
   have F5 := Lib.hid (F.out.trans (f5.mono (fun i h => h.elim)))
   clear p0 p1 p2 p3 q0 q1 q2 q3 hgc f5
   cases lt with
   | false =>
    have LO2 : Hid (H + 1 - a = 0 ∨ ∃ y, U[H + 1 - a - 1]? = some y ∧ kV y ≤ kV ⟨us, ur, ud, uv⟩) := .inr ⟨_, by rw [show H + 1 - a - 1 = H - a by omega]; exact HX.out, by have := of_decide_eq_false HLT.out; simp only [kV]; omega⟩
    go_wp2_with fail
    go_roundg (J - (H + 1))
    case measure => omega
    case rel => exact ⟨H + 1, J, by omega, by omega, hJm, rfl, by go_num, rfl, LO2.out, HI.out, R5.out, F5.out⟩
   | true =>
    have HI2 : Hid (U.length ≤ H - a ∨ ∃ y, U[H - a]? = some y ∧ kV ⟨us, ur, ud, uv⟩ < kV y) := .inr ⟨_, HX.out, by have := of_decide_eq_true HLT.out; simp only [kV]; omega⟩
    go_wp2_with fail
    go_roundg (H - I)
    case measure => omega
    case rel => exact ⟨I, H, haI, by omega, by omega, rfl, rfl, rfl, LO.out, HI2.out, R5.out, F5.out⟩
  case neg =>
   obtain rfl : I = J := by omega
   have h1 := HSU.out.take_le LO.out
   have h2 := HSU.out.drop_gt HI.out
   have HM : Hid (MergeS kV U [v] (U.take (I - a) ++ v :: U.drop (I - a))) := by
    have := HSU.out
    have e : U = U.take (I - a) ++ U.drop (I - a) := (List.take_append_drop _ _).symm
    rw [Hid]
    have h3 := MergeS.oneR (v := v) (U1 := U.take (I - a)) (U2 := U.drop (I - a)) (by rw [← e]; exact this) h1 h2
    rw [← e] at h3
    exact h3
   clear h1 h2 LO HI
   have R0 : Hid (RowE encEt wo g (P ++ U.take (m - a) ++ v :: U.drop (m - a) ++ S)) := by
    have := RW.out
    rw [Hid, List.take_of_length_le (by rw [HB.out]; exact Nat.le_refl _), List.drop_of_length_le (by rw [HB.out]; exact Nat.le_refl _)]
    simpa using this
   go_wp2_with fail
   go_loopg [17] (m - I) (fun gh ck wr => ∃ K, I ≤ K ∧ K ≤ m ∧ gh = K - I ∧ ck = .int .i64 (K : Int) ∧ RowE encEt wr g (P ++ U.take (K - a) ++ v :: U.drop (K - a) ++ S) ∧ Fr (S1 g) w wr)
   case atStart => exact ⟨m, hJm, Nat.le_refl _, rfl, rfl, R0.out, F.out⟩
   case round =>
    clear RW F R0
    obtain ⟨K, hIK, hKm, rfl, rfl, hrow, hfr⟩ := hrel
    obtain ⟨wi, rfl⟩ : ∃ wi : World, wi = wr := ⟨_, rfl⟩
    have RW := Lib.hid hrow
    have F := Lib.hid hfr
    clear hrow hfr
    by_cases hki : I < K
    case neg =>
     obtain rfl : I = K := by omega
     have R2 : Hid (RowE encEt wi g (P ++ (U.take (I - a) ++ v :: U.drop (I - a)) ++ S)) := by have := RW.out; rw [Hid]; simpa using this
     go_wp2_with fail
     refine bodyPost_ret (results_none rfl _ _ _) rfl ?_
     exact ⟨_, rfl, HM.out, R2.out, F.out⟩
    case pos =>
    obtain ⟨K1, hK1⟩ : ∃ K1, K - 1 = K1 := ⟨_, rfl⟩
    obtain ⟨x, hx⟩ : ∃ x, U[K1 - a]? = some x := ⟨_, List.getElem?_eq_getElem (by rw [HB.out]; omega)⟩
    have hxl := (List.getElem?_eq_some_iff.1 hx).1
    have eKa : K - a = K1 - a + 1 := by omega
    have ed : U.drop (K1 - a) = x :: U.drop (K - a) := by rw [List.drop_eq_getElem_cons hxl, (List.getElem?_eq_some_iff.1 hx).2, eKa]
    have et : U.take (K - a) = U.take (K1 - a) ++ [x] := by rw [eKa, List.take_add_one, hx]; rfl
    obtain ⟨A, hAA⟩ : ∃ A, P ++ U.take (K1 - a) = A := ⟨_, rfl⟩
    have hAl : A.length = K1 := by rw [← hAA, List.length_append, List.length_take, ← HA.out]; omega
    have RM : RowE encEt wi g (A ++ x :: v :: (U.drop (K - a) ++ S)) := by have := RW.out; rw [et, ← List.append_assoc, hAA] at this; simpa using this
    have hMx : (A ++ x :: v :: (U.drop (K - a) ++ S))[K1]? = some x := at_mid hAl
    have hMv : (A ++ x :: v :: (U.drop (K - a) ++ S))[K]? = some v := by
     have := at_mid (A := A ++ [x]) (B := U.drop (K - a) ++ S) (x := v) (i := K) (by simp [hAl]; omega)
     simpa using this
    obtain ⟨W1, W2, s1, s2, rm2, f2⟩ := RM.swap hMv hMx
    have hset : ((A ++ x :: v :: (U.drop (K - a) ++ S)).set K x).set K1 v = A ++ v :: x :: (U.drop (K - a) ++ S) := by
     rw [show K = A.length + 1 by omega, ← hAl]
     exact set_two
    rw [hset] at rm2
    have R2 : Hid (RowE encEt W2 g (P ++ U.take (K1 - a) ++ v :: U.drop (K1 - a) ++ S)) := by
     rw [Hid, ed, hAA]
     simpa using rm2
    have F2 := Lib.hid (F.out.trans f2)
    obtain ⟨p0, p1, p2, p3⟩ := RM.five hMv
    obtain ⟨q0, q1, q2, q3⟩ := RM.five hMx
    have S1' := Lib.hid s1
    have S2' := Lib.hid s2
    have hKN : K < N := by omega
    have hK1N : K1 < N := by omega
    have hKz : (K : Int) - 1 = (K1 : Int) := by omega
    have hwK : IntKind.i64.wrap (K1 : Int) = (K1 : Int) := by rw [IntKind.wrap_i64]; omega
    have HK1 := Lib.hid hK1
    obtain ⟨xs, xr, xd, xv⟩ := x
    obtain ⟨us, ur, ud, uv⟩ := v
    simp only at p0 p1 p2 p3 q0 q1 q2 q3
    clear s1 s2 rm2 f2 RM hMx hMv hset hK1 ed et hAA hAl hxl hx eKa
    go_upto_region 23 with fail
    refine wp_region_held_drew (S := (fun W => True)) (by kernel_rfl) ?_ (fun hHeld => ?_)
    ·exact trivial
    try dsimp only at hHeld
    refine hY 0 (some 113) hHeld ?_
    refine hY 1 (some 114) hHeld ?_
    refine hY 2 (some 115) hHeld ?_
    refine hY 3 (some 116) hHeld ?_
    refine hY 4 (some 117) hHeld ?_
    refine hY 5 (some 118) hHeld ?_
    refine hY 6 (some 119) hHeld ?_
    refine hY 7 (some 120) hHeld ?_
    refine hY 8 (some 121) hHeld ?_
    refine hY 10 (some 123) hHeld ?_
    refine hY 11 (some 124) hHeld ?_
    refine hY 12 (some 125) hHeld ?_
    refine wpAnyH_ready (rs := [9, 13]) (by kernel_rfl) (by simp) ?_
    refine (AllReadyH.cons rfl (fun K' hK' => ?_) (AllReadyH.cons rfl (fun K' hK' => ?_) AllReadyH.nil))
    ·go_simp
     refine hK'.out _ _ ?_ (fun hHeld => ?_)
     ·trivial
     clear hK' K'
     try dsimp only at hHeld
     try simp only [Act.put, List.setIfInBounds_toArray, List.set_cons_zero, List.set_cons_succ]
     refine wpAnyH_ready (rs := [13]) (by kernel_rfl) (by simp) ?_
     refine (AllReadyH.cons rfl (fun K' hK' => ?_) AllReadyH.nil)
     go_simp
     refine hK'.out _ _ ?_ (fun hHeld => ?_)
     ·trivial
     clear hK' K'
     try dsimp only at hHeld
     try simp only [Act.put, List.setIfInBounds_toArray, List.set_cons_zero, List.set_cons_succ]
     refine hY 14 (some 127) hHeld ?_
     refine wpAnyH_ready (rs := [15]) (by kernel_rfl) (by simp) ?_
     refine (AllReadyH.cons rfl (fun K' hK' => ?_) AllReadyH.nil)
     (refine step_str rfl _ _ _ rfl rfl rfl S1'.out ?_)
     refine hK'.out _ _ ?_ (fun hHeld => ?_)
     ·trivial
     clear hK' K'
     try dsimp only at hHeld
     try simp only [Act.put, List.setIfInBounds_toArray, List.set_cons_zero, List.set_cons_succ]
     refine hY 16 (some 128) hHeld ?_
     refine wpAnyH_ready (rs := [17]) (by kernel_rfl) (by simp) ?_
     refine (AllReadyH.cons rfl (fun K' hK' => ?_) AllReadyH.nil)
     (refine step_str rfl _ _ _ rfl rfl rfl S2'.out ?_)
     refine hK'.out _ _ ?_ (fun hHeld => ?_)
     ·trivial
     clear hK' K'
     try dsimp only at hHeld
     try simp only [Act.put, List.setIfInBounds_toArray, List.set_cons_zero, List.set_cons_succ]
     refine wpAnyH_done (by kernel_rfl) ?_ _
     (go_wp2_with fail; go_roundg (K1 - I); (case measure => omega); (case rel => exact ⟨K1, by omega, by omega, rfl, rfl, R2.out, F2.out⟩))
    ·go_simp
     refine hK'.out _ _ ?_ (fun hHeld => ?_)
     ·trivial
     clear hK' K'
     try dsimp only at hHeld
     try simp only [Act.put, List.setIfInBounds_toArray, List.set_cons_zero, List.set_cons_succ]
     refine wpAnyH_ready (rs := [9]) (by kernel_rfl) (by simp) ?_
     refine (AllReadyH.cons rfl (fun K' hK' => ?_) AllReadyH.nil)
     go_simp
     refine hK'.out _ _ ?_ (fun hHeld => ?_)
     ·trivial
     clear hK' K'
     try dsimp only at hHeld
     try simp only [Act.put, List.setIfInBounds_toArray, List.set_cons_zero, List.set_cons_succ]
     refine hY 14 (some 127) hHeld ?_
     refine wpAnyH_ready (rs := [15]) (by kernel_rfl) (by simp) ?_
     refine (AllReadyH.cons rfl (fun K' hK' => ?_) AllReadyH.nil)
     (refine step_str rfl _ _ _ rfl rfl rfl S1'.out ?_)
     refine hK'.out _ _ ?_ (fun hHeld => ?_)
     ·trivial
     clear hK' K'
     try dsimp only at hHeld
     try simp only [Act.put, List.setIfInBounds_toArray, List.set_cons_zero, List.set_cons_succ]
     refine hY 16 (some 128) hHeld ?_
     refine wpAnyH_ready (rs := [17]) (by kernel_rfl) (by simp) ?_
     refine (AllReadyH.cons rfl (fun K' hK' => ?_) AllReadyH.nil)
     (refine step_str rfl _ _ _ rfl rfl rfl S2'.out ?_)
     refine hK'.out _ _ ?_ (fun hHeld => ?_)
     ·trivial
     clear hK' K'
     try dsimp only at hHeld
     try simp only [Act.put, List.setIfInBounds_toArray, List.set_cons_zero, List.set_cons_succ]
     refine wpAnyH_done (by kernel_rfl) ?_ _
     (go_wp2_with fail; go_roundg (K1 - I); (case measure => omega); (case rel => exact ⟨K1, by omega, by omega, rfl, rfl, R2.out, F2.out⟩))
end Go.Proofs.YtlfikhblmbidmaaGreatDoor