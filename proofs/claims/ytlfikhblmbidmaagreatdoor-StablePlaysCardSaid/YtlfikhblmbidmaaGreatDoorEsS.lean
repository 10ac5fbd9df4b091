import Derived.Test.YtlfikhblmbidmaaGreatDoorEsI
set_option linter.all false
namespace Go.Proofs.YtlfikhblmbidmaaGreatDoor
open Go.RowKit Go.Maps Go.Shelf Go.Sort
theorem at_mid {α : Type} {A B : List α} {x : α} {i : Nat} (h : A.length = i) : (A ++ x :: B)[i]? = some x := by
 subst h
 rw [List.getElem?_append_right (Nat.le_refl _), Nat.sub_self]
 rfl
theorem at_in {α : Type} {A V S : List α} {i j : Nat} {x : α} (h : A.length = i) (hij : i ≤ j) (hx : V[j - i]? = some x) : (A ++ V ++ S)[j]? = some x := by
 subst h
 have := (List.getElem?_eq_some_iff.1 hx).1
 rw [List.append_assoc, List.getElem?_append_right hij, List.getElem?_append_left this]
 exact hx
set_option maxRecDepth 100000 in
set_option maxHeartbeats 4000000 in
theorem symOneL (g cap N : Nat) (P V S : List Et) (u : Et) (w : World) (h : RowE encEt w g (P ++ [u] ++ V ++ S)) (hN : N = P.length + 1 + V.length + S.length) (hcap : N ≤ cap) (hm : cap ≤ maxLen) (hbig : N ≤ 4294967296) (hu : okK u) (hok : ∀ x ∈ V, okK x) (hv : KSort kV V) (a m b : Nat) (ha : a = P.length) (hmm : m = a + 1) (hb : b = a + 1 + V.length) :
  Calls Tryz.prog 227 #[.slice (some ⟨g, 0, none⟩) N cap, .int .i64 (a : Int), .int .i64 (m : Int), .int .i64 (b : Int), cmpV] w fun e w' => ∃ R, e = .returned (.tuple #[]) ∧ MergeS kV [u] V R ∧ RowE encEt w' g (P ++ R ++ S) ∧ Fr (S1 g) w w' := by
 have hml : cap ≤ 9223372036854775807 := by unfold maxLen at hm; omega
 have H := Lib.hid h
 have HU := Lib.hid hu
 have HOK := Lib.hid hok
 have HSV := Lib.hid hv
 have HA := Lib.hid ha
 have hbl : V.length = b - m := by omega
 have HB := Lib.hid hbl
 have hbN : m ≤ b ∧ b ≤ N := by omega
 have hma : (m : Int) - (a : Int) = 1 := by omega
 have ham : a < m := by omega
 have HMA := Lib.hid hmm
 clear h hN hm hu hok hv ha hmm hb hbl
 go_enter Tryz.func227, Tryz.ntmps227
 go_wp2_with fail
 go_loopg [10, 11] (b - m) (fun gh ci cj wr => ∃ (I J : Nat), m ≤ I ∧ I ≤ J ∧ J ≤ b ∧ gh = J - I ∧ ci = .int .i64 (I : Int) ∧ cj = .int .i64 (J : Int) ∧ (I - m = 0 ∨ ∃ y, V[I - m - 1]? = some y ∧ kV y < kV u) ∧ (V.length ≤ J - m ∨ ∃ y, V[J - m]? = some y ∧ kV u ≤ kV y) ∧ RowE encEt wr g (P ++ [u] ++ V ++ S) ∧ Fr (S1 g) w wr)
 case atStart => exact ⟨m, b, Nat.le_refl _, hbN.1, Nat.le_refl _, rfl, rfl, rfl, .inl (Nat.sub_self _), .inl (by rw [HB.out]; exact Nat.le_refl _), H.out, Fr.refl _ _⟩
 case round =>
  obtain ⟨I, J, hmI, hIJ, hJb, rfl, rfl, rfl, hlo, hhi, hrow, hfr⟩ := hrel
  obtain ⟨wo, rfl⟩ : ∃ wo : World, wo = wr := ⟨_, rfl⟩
  have LO := Lib.hid hlo
  have HI := Lib.hid hhi
  have RW := Lib.hid hrow
  have F := Lib.hid hfr
  clear hlo hhi hrow hfr H
  by_cases hlt : I < J
  case pos =>
   obtain ⟨H, hH⟩ : ∃ H, (I + J) / 2 = H := ⟨_, rfl⟩
   have hHI : I ≤ H ∧ H < J := by omega
   have hHz : ((I : Int) + (J : Int)) / 2 = (H : Int) := by omega
   obtain ⟨x, hx⟩ : ∃ x, V[H - m]? = some x := ⟨_, List.getElem?_eq_getElem (by rw [HB.out]; omega)⟩
   have hMx : (P ++ [u] ++ V ++ S)[H]? = some x := at_in (i := m) (by rw [List.length_append, ← HA.out, HMA.out]; rfl) (by omega) hx
   have hMu : (P ++ [u] ++ V ++ S)[a]? = some u := by rw [List.append_assoc, List.append_assoc]; exact at_mid HA.out.symm
   obtain ⟨p0, p1, p2, p3⟩ := RW.out.five hMx
   obtain ⟨q0, q1, q2, q3⟩ := RW.out.five hMu
   have HOKx := Lib.hid (HOK.out x (List.mem_of_getElem? hx))
   have HX := Lib.hid hx
   obtain ⟨lt, hlt2⟩ : ∃ lt, decide (kV x - kV u < 0) = lt := ⟨_, rfl⟩
   have HLT0 := Lib.hid hlt2
   have hHN : H < N := by omega
   have haN : a < N := by omega
   have HH := Lib.hid hH
   clear hH hx hMx hMu hlt2
   obtain ⟨xs, xr, xd, xv⟩ := x
   obtain ⟨us, ur, ud, uv⟩ := u
   simp only at p0 p1 p2 p3 q0 q1 q2 q3
   have HLT : Hid (decide ((xr * 8 + xd) - (ur * 8 + ud) < 0) = lt) := HLT0.out
   go_upto_region 5 with fail
   go_cut [50] (fun c wx => c = .bool lt ∧ wo.grownBy wx none)
   case first =>
    go_region_held3 (fun W => W.cell? ⟨g, H * 4, none⟩ = some (.int .i64 xs) ∧ W.cell? ⟨g, H * 4 + 1, none⟩ = some (.int .i64 xr) ∧ W.cell? ⟨g, H * 4 + 2, none⟩ = some (.int .i64 xd) ∧ W.cell? ⟨g, H * 4 + 3, none⟩ = some (.string xv) ∧ W.cell? ⟨g, a * 4, none⟩ = some (.int .i64 us) ∧ W.cell? ⟨g, a * 4 + 1, none⟩ = some (.int .i64 ur) ∧ W.cell? ⟨g, a * 4 + 2, none⟩ = some (.int .i64 ud) ∧ W.cell? ⟨g, a * 4 + 3, none⟩ = some (.string uv))
     (first | exact ⟨by assumption, by assumption, by assumption, by assumption, by assumption, by assumption, by assumption, by assumption⟩ | exact ⟨bcell B4.out p0, bcell B4.out p1, bcell B4.out p2, bcell B4.out p3, bcell B4.out q0, bcell B4.out q1, bcell B4.out q2, bcell B4.out q3⟩ | go_keep)
     (first | (go_at_call 163; refine (cmpV_any xs xr xd xv us ur ud uv _ HOKx.out HU.out).mono ?_; rintro e w4 ⟨c4, rfl, hc4, b4⟩; have HC4 := Lib.hid hc4; clear hc4; have B4 := Lib.hid (bdrew2 b4); clear b4))
    go_wp2_with fail
    go_meet
    exact ⟨by rw [← HLT.out, ← HC4.out], bel_grown B4.out⟩
   case rest =>
   obtain ⟨rfl, hgc⟩ := hcut
   obtain ⟨w5, rfl⟩ : ∃ w5 : World, w5 = wc := ⟨_, rfl⟩
   have f5 : Fr S0 wo w5 := Fr.of_grown hgc (fun i e => by cases e)
   have R5 := Lib.hid (RW.out.fr f5 (fun h => h))
   have F5 := Lib.hid (F.out.trans (f5.mono (fun i h => h.elim)))
   clear p0 p1 p2 p3 q0 q1 q2 q3 hgc f5
   cases lt with
   | true =>
    have LO2 : Hid (H + 1 - m = 0 ∨ ∃ y, V[H + 1 - m - 1]? = some y ∧ kV y < kV ⟨us, ur, ud, uv⟩) := .inr ⟨_, by rw [show H + 1 - m - 1 = H - m by omega]; exact HX.out, by have := of_decide_eq_true HLT.out; simp only [kV]; omega⟩
    go_wp2_with fail
    go_roundg (J - (H + 1))
    case measure => omega
    case rel => exact ⟨H + 1, J, by omega, by omega, hJb, rfl, by go_num, rfl, LO2.out, HI.out, R5.out, F5.out⟩
   | false =>
    have HI2 : Hid (V.length ≤ H - m ∨ ∃ y, V[H - m]? = some y ∧ kV ⟨us, ur, ud, uv⟩ ≤ kV y) := .inr ⟨_, HX.out, by have := of_decide_eq_false HLT.out; simp only [kV]; omega⟩
    go_wp2_with fail
    go_roundg (H - I)
    case measure => omega
    case rel => exact ⟨I, H, hmI, by omega, by omega, rfl, rfl, rfl, LO.out, HI2.out, R5.out, F5.out⟩
  case neg =>
   obtain rfl : I = J := by omega
   have h1 := HSV.out.take_lt LO.out
   have h2 := HSV.out.drop_ge HI.out
   have HM : Hid (MergeS kV [u] V (V.take (I - m) ++ u :: V.drop (I - m))) := by
    have := HSV.out
    have e : V = V.take (I - m) ++ V.drop (I - m) := (List.take_append_drop _ _).symm
    rw [Hid]
    have h3 := MergeS.oneL (u := u) (V1 := V.take (I - m)) (V2 := V.drop (I - m)) (by rw [← e]; exact this) h1 h2
    rw [← e] at h3
    exact h3
   clear h1 h2 LO HI
   have hIa : (I : Int) - 1 = ((I - 1 : Nat) : Int) := by omega
   obtain ⟨Z, hZ⟩ : ∃ Z, I - 1 = Z := ⟨_, rfl⟩
   rw [hZ] at hIa
   have hZa : a ≤ Z := by omega
   have HZ := Lib.hid hZ
   have R0 : Hid (RowE encEt wo g (P ++ V.take (a - a) ++ u :: V.drop (a - a) ++ S)) := by have := RW.out; rw [Hid, Nat.sub_self]; simpa using this
   clear hZ
   go_wp2_with fail
   go_loopg [13] (Z - a) (fun gh ck wr => ∃ K, a ≤ K ∧ K ≤ Z ∧ gh = Z - K ∧ ck = .int .i64 (K : Int) ∧ RowE encEt wr g (P ++ V.take (K - a) ++ u :: V.drop (K - a) ++ S) ∧ Fr (S1 g) w wr)
   case atStart => exact ⟨a, Nat.le_refl _, hZa, rfl, rfl, R0.out, F.out⟩
   case round =>
    clear RW F R0
    obtain ⟨K, haK, hKZ, rfl, rfl, hrow, hfr⟩ := hrel
    obtain ⟨wi, rfl⟩ : ∃ wi : World, wi = wr := ⟨_, rfl⟩
    have RW := Lib.hid hrow
    have F := Lib.hid hfr
    clear hrow hfr
    by_cases hkz : K < Z
    case neg =>
     have e : K - a = I - m := by have := HZ.out; have := HMA.out; omega
     have R2 : Hid (RowE encEt wi g (P ++ (V.take (I - m) ++ u :: V.drop (I - m)) ++ S)) := by have := RW.out; rw [e] at this; rw [Hid]; simpa using this
     clear e
     go_wp2_with fail
     refine bodyPost_ret (results_none rfl _ _ _) rfl ?_
     exact ⟨_, rfl, HM.out, R2.out, F.out⟩
    case pos =>
    obtain ⟨x, hx⟩ : ∃ x, V[K - a]? = some x := ⟨_, List.getElem?_eq_getElem (by rw [HB.out]; have := HZ.out; have := HMA.out; omega)⟩
    have hxl := (List.getElem?_eq_some_iff.1 hx).1
    have ed : V.drop (K - a) = x :: V.drop (K - a + 1) := by rw [List.drop_eq_getElem_cons hxl, (List.getElem?_eq_some_iff.1 hx).2]
    have et : V.take (K - a + 1) = V.take (K - a) ++ [x] := by rw [List.take_add_one, hx]; rfl
    obtain ⟨A, hAA⟩ : ∃ A, P ++ V.take (K - a) = A := ⟨_, rfl⟩
    have hAl : A.length = K := by rw [← hAA, List.length_append, List.length_take, ← HA.out]; omega
    have RM : RowE encEt wi g (A ++ u :: x :: (V.drop (K - a + 1) ++ S)) := by have := RW.out; rw [ed, hAA] at this; simpa using this
    have hMK : (A ++ u :: x :: (V.drop (K - a + 1) ++ S))[K]? = some u := at_mid hAl
    have hMK1 : (A ++ u :: x :: (V.drop (K - a + 1) ++ S))[K + 1]? = some x := by
     have := at_mid (A := A ++ [u]) (B := V.drop (K - a + 1) ++ S) (x := x) (i := K + 1) (by simp [hAl])
     simpa using this
    obtain ⟨W1, W2, s1, s2, rm2, f2⟩ := RM.swap hMK hMK1
    rw [show K + 1 = A.length + 1 by omega] at rm2
    rw [show (A ++ u :: x :: (V.drop (K - a + 1) ++ S)).set K x = (A ++ u :: x :: (V.drop (K - a + 1) ++ S)).set A.length x by rw [hAl], set_two'] at rm2
    have R2 : Hid (RowE encEt W2 g (P ++ V.take (K + 1 - a) ++ u :: V.drop (K + 1 - a) ++ S)) := by
     rw [Hid, show K + 1 - a = K - a + 1 by omega, et, ← List.append_assoc, hAA]
     simpa using rm2
    have F2 := Lib.hid (F.out.trans f2)
    obtain ⟨p0, p1, p2, p3⟩ := RM.five hMK
    obtain ⟨q0, q1, q2, q3⟩ := RM.five hMK1
    obtain ⟨K1, hK1⟩ : ∃ K1, K + 1 = K1 := ⟨_, rfl⟩
    rw [hK1] at s2 q0 q1 q2 q3
    have S1' := Lib.hid s1
    have S2' := Lib.hid s2
    have hKN : K < N := by have := HZ.out; omega
    have hK1N : K1 < N := by have := HZ.out; omega
    have hKz : (K : Int) + 1 = (K1 : Int) := by omega
    have hwK : IntKind.i64.wrap (K1 : Int) = (K1 : Int) := by rw [IntKind.wrap_i64]; omega
    have HK1 := Lib.hid hK1
    obtain ⟨xs, xr, xd, xv⟩ := x
    obtain ⟨us, ur, ud, uv⟩ := u
    simp only at p0 p1 p2 p3 q0 q1 q2 q3
    clear s1 s2 rm2 f2 RM hMK hMK1 hK1 ed et hAA hAl hxl hx
    go_upto_region 11 with fail
    refine wp_region_held_drew (S := (fun W => True)) (by kernel_rfl) ?_ (fun hHeld => ?_)
    ·exact trivial
    try dsimp only at hHeld
    refine hY 0 (some 61) hHeld ?_
    refine hY 1 (some 62) hHeld ?_
    refine hY 2 (some 63) hHeld ?_
    refine hY 3 (some 64) hHeld ?_
    refine hY 4 (some 65) hHeld ?_
    refine hY 5 (some 66) hHeld ?_
    refine hY 6 (some 67) hHeld ?_
    refine hY 7 (some 68) hHeld ?_
    refine hY 8 (some 69) hHeld ?_
    refine hY 10 (some 71) hHeld ?_
    refine hY 11 (some 72) hHeld ?_
    refine hY 12 (some 73) hHeld ?_
    refine wpAnyH_ready (rs := [9, 13]) (by kernel_rfl) (by simp) ?_
    refine (AllReadyH.cons rfl (fun K' hK' => ?_) (AllReadyH.cons rfl (fun K' hK' => ?_) AllReadyH.nil))
    ·go_simp
     refine hK'.out _ _ ?_ (fun hHeld => ?_)
     ·trivial
     clear hK' K'
     try dsimp only at hHeld
     try simp only [Act.put, List.setIfInBounds_toArray, List.set_cons_zero, List.set_cons_succ]
     refine wpAnyH_ready (rs := [13]) (by kernel_rfl) (by simp) ?_
     refine (AllReadyH.cons rfl (fun K' hK' => ?_) AllReadyH.nil)
     go_simp
     refine hK'.out _ _ ?_ (fun hHeld => ?_)
     ·trivial
     clear hK' K'
     try dsimp only at hHeld
     try simp only [Act.put, List.setIfInBounds_toArray, List.set_cons_zero, List.set_cons_succ]
     refine hY 14 (some 75) hHeld ?_
     refine wpAnyH_ready (rs := [15]) (by kernel_rfl) (by simp) ?_
     refine (AllReadyH.cons rfl (fun K' hK' => ?_) AllReadyH.nil)
     (refine step_str rfl _ _ _ rfl rfl rfl S1'.out ?_)
     refine hK'.out _ _ ?_ (fun hHeld => ?_)
     ·trivial
     clear hK' K'
     try dsimp only at hHeld
     try simp only [Act.put, List.setIfInBounds_toArray, List.set_cons_zero, List.set_cons_succ]
     refine hY 16 (some 76) hHeld ?_
     refine wpAnyH_ready (rs := [17]) (by kernel_rfl) (by simp) ?_
     refine (AllReadyH.cons rfl (fun K' hK' => ?_) AllReadyH.nil)
     (refine step_str rfl _ _ _ rfl rfl rfl S2'.out ?_)
     refine hK'.out _ _ ?_ (fun hHeld => ?_)
     ·trivial
     clear hK' K'
     try dsimp only at hHeld
     try simp only [Act.put, List.setIfInBounds_toArray, List.set_cons_zero, List.set_cons_succ]
     refine wpAnyH_done (by kernel_rfl) ?_ _
     (go_wp2_with fail; go_roundg (Z - (K + 1)); (case measure => omega); (case rel => exact ⟨K + 1, by omega, by omega, rfl, by rw [Int.natCast_add]; go_num, R2.out, F2.out⟩))
    ·go_simp
     refine hK'.out _ _ ?_ (fun hHeld => ?_)
     ·trivial
     clear hK' K'
     try dsimp only at hHeld
     try simp only [Act.put, List.setIfInBounds_toArray, List.set_cons_zero, List.set_cons_succ]
     refine wpAnyH_ready (rs := [9]) (by kernel_rfl) (by simp) ?_
     refine (AllReadyH.cons rfl (fun K' hK' => ?_) AllReadyH.nil)
     go_simp
     refine hK'.out _ _ ?_ (fun hHeld => ?_)
     ·trivial
     clear hK' K'
     try dsimp only at hHeld
     try simp only [Act.put, List.setIfInBounds_toArray, List.set_cons_zero, List.set_cons_succ]
     refine hY 14 (some 75) hHeld ?_
     refine wpAnyH_ready (rs := [15]) (by kernel_rfl) (by simp) ?_
     refine (AllReadyH.cons rfl (fun K' hK' => ?_) AllReadyH.nil)
     (refine step_str rfl _ _ _ rfl rfl rfl S1'.out ?_)
     refine hK'.out _ _ ?_ (fun hHeld => ?_)
     ·trivial
     clear hK' K'
     try dsimp only at hHeld
     try simp only [Act.put, List.setIfInBounds_toArray, List.set_cons_zero, List.set_cons_succ]
     refine hY 16 (some 76) hHeld ?_
     refine wpAnyH_ready (rs := [17]) (by kernel_rfl) (by simp) ?_
     refine (AllReadyH.cons rfl (fun K' hK' => ?_) AllReadyH.nil)
     (refine step_str rfl _ _ _ rfl rfl rfl S2'.out ?_)
     refine hK'.out _ _ ?_ (fun hHeld => ?_)
     ·trivial
     clear hK' K'
     try dsimp only at hHeld
     try simp only [Act.put, List.setIfInBounds_toArray, List.set_cons_zero, List.set_cons_succ]
     refine wpAnyH_done (by kernel_rfl) ?_ _
     (go_wp2_with fail; go_roundg (Z - (K + 1)); (case measure => omega); (case rel => exact ⟨K + 1, by omega, by omega, rfl, by rw [Int.natCast_add]; go_num, R2.out, F2.out⟩))
end Go.Proofs.YtlfikhblmbidmaaGreatDoor