import Derived.Test.YtlfikhblmbidmaaGreatDoorEsQ
set_option linter.all false
namespace Go.Proofs.YtlfikhblmbidmaaGreatDoor
open Go.RowKit Go.Maps Go.Shelf Go.Sort
def SymP (g cap N k : Nat) : Prop := ∀ (P U V S : List Et) (w : World) (a m b : Nat), U.length + V.length ≤ k → 0 < U.length → 0 < V.length → RowE encEt w g (P ++ U ++ V ++ S) → N = P.length + U.length + V.length + S.length → (∀ x ∈ U, okK x) → (∀ x ∈ V, okK x) →
 KSort kV U → KSort kV V → a = P.length → m = a + U.length → b = m + V.length →
  Calls Tryz.prog 227 #[.slice (some ⟨g, 0, none⟩) N cap, .int .i64 (a : Int), .int .i64 (m : Int), .int .i64 (b : Int), cmpV] w fun e w' => ∃ R, e = .returned (.tuple #[]) ∧ MergeS kV U V R ∧ RowE encEt w' g (P ++ R ++ S) ∧ Fr (S1 g) w w'
theorem sym_parts {U V : List Et} {a m b nn s0 r0 T : Nat} (hu : KSort kV U) (hv : KSort kV V) (hul : U.length = m - a) (hvl : V.length = b - m) (hT : s0 ≤ T ∧ T ≤ r0) (h1 : a ≤ s0 ∧ r0 ≤ m ∧ nn - s0 ≤ b ∧ m ≤ nn - r0 ∧ r0 ≤ nn) (h2 : s0 = a ∨ nn - s0 = b) (h3 : r0 = m ∨ nn - r0 = m)
  (hlo : T = s0 ∨ ∃ x y, U[T - 1 - a]? = some x ∧ V[nn - T - m]? = some y ∧ kV x ≤ kV y) (hhi : T = r0 ∨ ∃ x y, U[T - a]? = some x ∧ V[nn - 1 - T - m]? = some y ∧ kV y < kV x) :
  (∀ x ∈ U.drop (T - a), ∀ y ∈ V.take (nn - T - m), kV y < kV x) ∧ (∀ x ∈ U.take (T - a), ∀ y ∈ V.drop (nn - T - m), kV x ≤ kV y) := by
 constructor
 ·clear hlo
  intro x hx y hy
  rcases hhi with e | ⟨x0, y0, e1, e2, e3⟩
  ·rcases h3 with e4 | e4
   ·rw [List.drop_of_length_le (by omega)] at hx; cases hx
   ·rw [show nn - T - m = 0 by omega, List.take_zero] at hy; cases hy
  ·have k1 := hu.drop_ge (i := T - a) (k := kV x0) (.inr ⟨x0, e1, Int.le_refl _⟩) x hx
   have k2 := hv.take_lt (i := nn - T - m) (k := kV x0) (by
    by_cases h0 : nn - T - m = 0
    ·exact .inl h0
    ·exact .inr ⟨y0, by rw [show nn - T - m - 1 = nn - 1 - T - m by omega]; exact e2, e3⟩) y hy
   omega
 ·clear hhi
  intro x hx y hy
  rcases hlo with e | ⟨x0, y0, e1, e2, e3⟩
  ·rcases h2 with e4 | e4
   ·rw [show T - a = 0 by omega, List.take_zero] at hx; cases hx
   ·rw [List.drop_of_length_le (by omega)] at hy; cases hy
  ·have k1 := hu.take_le (i := T - a) (k := kV x0) (by
    by_cases h0 : T - a = 0
    ·exact .inl h0
    ·exact .inr ⟨x0, by rw [show T - a - 1 = T - 1 - a by omega]; exact e1, Int.le_refl _⟩) x hx
   have k2 := hv.drop_ge (i := nn - T - m) (k := kV y0) (.inr ⟨y0, e2, Int.le_refl _⟩) y hy
   omega
set_option maxRecDepth 100000 in
set_option maxHeartbeats 40000000 in
theorem symGen (g cap N k : Nat) (hcap : N ≤ cap) (hm : cap ≤ maxLen) (hbig : N ≤ 4294967296) (ih : SymP g cap N k) (P U V S : List Et) (w : World) (a m b : Nat) (hk : U.length + V.length ≤ k + 1) (hu2 : 2 ≤ U.length) (hv2 : 2 ≤ V.length) (h : RowE encEt w g (P ++ U ++ V ++ S)) (hN : N = P.length + U.length + V.length + S.length)
  (hoku : ∀ x ∈ U, okK x) (hokv : ∀ x ∈ V, okK x) (hu : KSort kV U) (hv : KSort kV V) (ha : a = P.length) (hmm : m = a + U.length) (hb : b = m + V.length) :
  Calls Tryz.prog 227 #[.slice (some ⟨g, 0, none⟩) N cap, .int .i64 (a : Int), .int .i64 (m : Int), .int .i64 (b : Int), cmpV] w fun e w' => ∃ R, e = .returned (.tuple #[]) ∧ MergeS kV U V R ∧ RowE encEt w' g (P ++ R ++ S) ∧ Fr (S1 g) w w' := by
 have hml : cap ≤ 9223372036854775807 := by unfold maxLen at hm; omega
 obtain ⟨ls, hls⟩ : ∃ l, S.length = l := ⟨_, rfl⟩
 have hul : U.length = m - a := by omega
 have hvl : V.length = b - m := by omega
 have hNs : N = b + ls := by omega
 have hkk : b - a ≤ k + 1 := by omega
 have ham : a + 2 ≤ m := by omega
 have hmb : m + 2 ≤ b := by omega
 have hbN : b ≤ N := by omega
 have IH := Lib.hid ih
 have H := Lib.hid h
 have HM := Lib.hid hm
 have HOU := Lib.hid hoku
 have HOV := Lib.hid hokv
 have HSU := Lib.hid hu
 have HSV := Lib.hid hv
 have HA := Lib.hid ha
 have HUL := Lib.hid hul
 have HVL := Lib.hid hvl
 have HLS := Lib.hid hls
 have HNS := Lib.hid hNs
 have HKK := Lib.hid hkk
 clear ih h hm hoku hokv hu hv ha hmm hb hul hvl hls hNs hN hk hu2 hv2 hkk
 obtain ⟨mid, hmid⟩ : ∃ mid, (a + b) / 2 = mid := ⟨_, rfl⟩
 obtain ⟨nn, hnn⟩ : ∃ nn, mid + m = nn := ⟨_, rfl⟩
 obtain ⟨s0, r0, hsr⟩ : ∃ s0 r0 : Nat, (mid < m ∧ s0 = nn - b ∧ r0 = mid) ∨ (m ≤ mid ∧ s0 = a ∧ r0 = m) := by
  by_cases hc : mid < m
  ·exact ⟨nn - b, mid, .inl ⟨hc, rfl, rfl⟩⟩
  ·exact ⟨a, m, .inr ⟨by omega, rfl, rfl⟩⟩
 have hf1 : a ≤ s0 ∧ r0 ≤ m ∧ nn - s0 ≤ b ∧ m ≤ nn - r0 ∧ r0 ≤ nn := by omega
 have hf2 : s0 = a ∨ nn - s0 = b := by omega
 have hf3 : r0 = m ∨ nn - r0 = m := by omega
 have hsr0 : s0 ≤ r0 := by omega
 have hnN : nn ≤ 2 * N := by omega
 have hn1 : 1 ≤ nn := by omega
 have hmd : a < mid ∧ mid < b := by omega
 have hmz : ((a : Int) + (b : Int)) / 2 = (mid : Int) := by omega
 have hnz : (mid : Int) + (m : Int) = (nn : Int) := by omega
 obtain ⟨pp, hpp⟩ : ∃ pp, nn - 1 = pp := ⟨_, rfl⟩
 have hpz : (nn : Int) - 1 = (pp : Int) := by omega
 have hppN : pp ≤ 2 * N := by omega
 have hne1 : ((m : Int) - (a : Int) == 1) = false := by rw [beq_eq_false_iff_ne]; omega
 have hne1' : ¬ (m : Int) - (a : Int) = 1 := by omega
 have hne2 : ((b : Int) - (m : Int) == 1) = false := by rw [beq_eq_false_iff_ne]; omega
 have hne2' : ¬ (b : Int) - (m : Int) = 1 := by omega
 have HSR := Lib.hid hsr
 have HF1 := Lib.hid hf1
 have HF2 := Lib.hid hf2
 have HF3 := Lib.hid hf3
 have HMID := Lib.hid hmid
 have HNN := Lib.hid hnn
 have HPP := Lib.hid hpp
 clear hmid hnn hpp hsr hf1 hf2 hf3
 go_enter Tryz.func227, Tryz.ntmps227
 go_upto_if 140 with fail
 go_cut [20, 21] (fun s r wx => s = .int .i64 (s0 : Int) ∧ r = .int .i64 (r0 : Int) ∧ wx = w)
 case first =>
  as_aux_lemma =>
   by_cases hc : mid < m
   ·have hsz : (nn : Int) - (b : Int) = (s0 : Int) := by have := HSR.out; have := HNN.out; have := HMID.out; omega
    have hre : Hid (r0 = mid) := by rw [Hid]; have := HSR.out; omega
    go_wp2_with fail
    go_meet
    exact ⟨rfl, by rw [hre.out], rfl⟩
   ·have hse : Hid (s0 = a ∧ r0 = m) := by rw [Hid]; have := HSR.out; omega
    go_wp2_with fail
    go_meet
    exact ⟨by rw [hse.out.1], by rw [hse.out.2], rfl⟩
 case rest =>
 obtain ⟨rfl, rfl, hwc⟩ := hcut
 obtain rfl : w = wc := hwc.symm
 go_wp2_with fail
 go_loopg [20, 21] (r0 - s0) (fun gh cs cr wr => ∃ (T R : Nat), s0 ≤ T ∧ T ≤ R ∧ R ≤ r0 ∧ gh = R - T ∧ cs = .int .i64 (T : Int) ∧ cr = .int .i64 (R : Int) ∧ (T = s0 ∨ ∃ x y, U[T - 1 - a]? = some x ∧ V[nn - T - m]? = some y ∧ kV x ≤ kV y) ∧ (R = r0 ∨ ∃ x y, U[R - a]? = some x ∧ V[nn - 1 - R - m]? = some y ∧ kV y < kV x) ∧ RowE encEt wr g (P ++ U ++ V ++ S) ∧ Fr (S1 g) w wr)
 case atStart => exact ⟨s0, r0, Nat.le_refl _, hsr0, Nat.le_refl _, rfl, rfl, rfl, .inl rfl, .inl rfl, H.out, Fr.refl _ _⟩
 case round =>
  obtain ⟨T, R, hsT, hTR, hRr, rfl, rfl, rfl, hlo, hhi, hrow, hfr⟩ := hrel
  obtain ⟨wo, rfl⟩ : ∃ wo : World, wo = wr := ⟨_, rfl⟩
  have LO := Lib.hid hlo
  have HI := Lib.hid hhi
  have RW := Lib.hid hrow
  have F := Lib.hid hfr
  clear hlo hhi hrow hfr H
  by_cases hlt : T < R
  case pos =>
   as_aux_lemma =>
    obtain ⟨C, hC⟩ : ∃ C, (T + R) / 2 = C := ⟨_, rfl⟩
    have hCTR : T ≤ C ∧ C < R := by omega
    have hTN : T ≤ N ∧ R ≤ N := by have := HF1.out; omega
    have hCz : ((T : Int) + (R : Int)) / 2 = (C : Int) := by omega
    obtain ⟨D, hD⟩ : ∃ D, nn - 1 - C = D := ⟨_, rfl⟩
    have hDz : (pp : Int) - (C : Int) = (D : Int) := by have := HF1.out; have := HPP.out; omega
    have hCD : a ≤ C ∧ C < m ∧ m ≤ D ∧ D < b := by have := HF1.out; omega
    have hwD : IntKind.i64.wrap (D : Int) = (D : Int) := by rw [IntKind.wrap_i64]; omega
    obtain ⟨x, hx⟩ : ∃ x, U[C - a]? = some x := ⟨_, List.getElem?_eq_getElem (by rw [HUL.out]; omega)⟩
    obtain ⟨y, hy⟩ : ∃ y, V[D - m]? = some y := ⟨_, List.getElem?_eq_getElem (by rw [HVL.out]; omega)⟩
    have hMx : (P ++ U ++ V ++ S)[C]? = some x := by
     have := at_in (A := P) (V := U) (S := V ++ S) (i := a) (j := C) HA.out.symm (by omega) hx
     simpa using this
    have hMy : (P ++ U ++ V ++ S)[D]? = some y := at_in (A := P ++ U) (V := V) (S := S) (i := m) (j := D) (by rw [List.length_append, HUL.out, ← HA.out]; omega) (by omega) hy
    obtain ⟨p0, p1, p2, p3⟩ := RW.out.five hMy
    obtain ⟨q0, q1, q2, q3⟩ := RW.out.five hMx
    have HOKx := Lib.hid (HOU.out x (List.mem_of_getElem? hx))
    have HOKy := Lib.hid (HOV.out y (List.mem_of_getElem? hy))
    have HX := Lib.hid hx
    have HY := Lib.hid hy
    obtain ⟨lt, hlt2⟩ : ∃ lt, decide (kV y - kV x < 0) = lt := ⟨_, rfl⟩
    have HLT0 := Lib.hid hlt2
    have hCN : C < N := by omega
    have hDN : D < N := by omega
    have HC := Lib.hid hC
    have HD := Lib.hid hD
    clear hC hD hx hy hMx hMy hlt2
    obtain ⟨xs, xr, xd, xv⟩ := x
    obtain ⟨us, ur, ud, uv⟩ := y
    simp only at p0 p1 p2 p3 q0 q1 q2 q3
    have HLT : Hid (decide ((ur * 8 + ud) - (xr * 8 + xd) < 0) = lt) := HLT0.out
    go_upto_region 35 with fail
    go_cut [171] (fun c wx => c = .bool (!lt) ∧ wo.grownBy wx none)
    case first =>
     as_aux_lemma =>
      go_region_held3 (fun W => W.cell? ⟨g, D * 4, none⟩ = some (.int .i64 us) ∧ W.cell? ⟨g, D * 4 + 1, none⟩ = some (.int .i64 ur) ∧ W.cell? ⟨g, D * 4 + 2, none⟩ = some (.int .i64 ud) ∧ W.cell? ⟨g, D * 4 + 3, none⟩ = some (.string uv) ∧ W.cell? ⟨g, C * 4, none⟩ = some (.int .i64 xs) ∧ W.cell? ⟨g, C * 4 + 1, none⟩ = some (.int .i64 xr) ∧ W.cell? ⟨g, C * 4 + 2, none⟩ = some (.int .i64 xd) ∧ W.cell? ⟨g, C * 4 + 3, none⟩ = some (.string xv))
       (first | exact ⟨by assumption, by assumption, by assumption, by assumption, by assumption, by assumption, by assumption, by assumption⟩ | exact ⟨bcell B4.out p0, bcell B4.out p1, bcell B4.out p2, bcell B4.out p3, bcell B4.out q0, bcell B4.out q1, bcell B4.out q2, bcell B4.out q3⟩ | go_keep)
       (first | (go_at_call 163; refine (cmpV_any us ur ud uv xs xr xd xv _ HOKy.out HOKx.out).mono ?_; rintro e w4 ⟨c4, rfl, hc4, b4⟩; have HC4 := Lib.hid hc4; clear hc4; have B4 := Lib.hid (bdrew2 b4); clear b4))
      go_wp2_with fail
      go_meet
      exact ⟨by rw [← HLT.out, ← HC4.out], bel_grown B4.out⟩
    case rest =>
    obtain ⟨rfl, hgc⟩ := hcut
    obtain ⟨w5, rfl⟩ : ∃ w5 : World, w5 = wc := ⟨_, rfl⟩
    have f5 : Fr S0 wo w5 := Fr.of_grown hgc (fun i e => by cases e)
    have R5 := Lib.hid (RW.out.fr f5 (fun h => h))
    have F5 := Lib.hid (F.out.trans (f5.mono (fun i h => h.elim)))
    clear p0 p1 p2 p3 q0 q1 q2 q3 hgc f5
    cases lt with
    | false =>
     have LO2 : Hid (C + 1 = s0 ∨ ∃ x y, U[C + 1 - 1 - a]? = some x ∧ V[nn - (C + 1) - m]? = some y ∧ kV x ≤ kV y) := .inr ⟨_, _, HX.out, by rw [show nn - (C + 1) - m = D - m by have := HD.out; omega]; exact HY.out, by have := of_decide_eq_false HLT.out; simp only [kV]; omega⟩
     go_wp2_with fail
     go_roundg (R - (C + 1))
     case measure => omega
     case rel => exact ⟨C + 1, R, by omega, by omega, hRr, rfl, by go_num, rfl, LO2.out, HI.out, R5.out, F5.out⟩
    | true =>
     have HI2 : Hid (C = r0 ∨ ∃ x y, U[C - a]? = some x ∧ V[nn - 1 - C - m]? = some y ∧ kV y < kV x) := .inr ⟨_, _, HX.out, by rw [HD.out]; exact HY.out, by have := of_decide_eq_true HLT.out; simp only [kV]; omega⟩
     go_wp2_with fail
     go_roundg (C - T)
     case measure => omega
     case rel => exact ⟨T, C, hsT, by omega, by omega, rfl, rfl, rfl, LO.out, HI2.out, R5.out, F5.out⟩
  case neg =>
   obtain rfl : T = R := by omega
   obtain ⟨hx, hy⟩ := sym_parts HSU.out HSV.out HUL.out HVL.out ⟨hsT, hRr⟩ HF1.out HF2.out HF3.out LO.out HI.out
   obtain ⟨E, hE⟩ : ∃ E, nn - T = E := ⟨_, rfl⟩
   rw [hE] at hx hy
   have hEz : (nn : Int) - (T : Int) = (E : Int) := by have := HF1.out; omega
   have hEb : m ≤ E ∧ E ≤ b ∧ a ≤ T ∧ T ≤ m ∧ T + (E - m) = mid ∧ mid + (m - T) = E := by have := HF1.out; have := HNN.out; omega
   obtain ⟨U1, hU1⟩ : ∃ l, U.take (T - a) = l := ⟨_, rfl⟩
   obtain ⟨U2, hU2⟩ : ∃ l, U.drop (T - a) = l := ⟨_, rfl⟩
   obtain ⟨V1, hV1⟩ : ∃ l, V.take (E - m) = l := ⟨_, rfl⟩
   obtain ⟨V2, hV2⟩ : ∃ l, V.drop (E - m) = l := ⟨_, rfl⟩
   have hUU : U = U1 ++ U2 := by rw [← hU1, ← hU2, List.take_append_drop]
   have hVV : V = V1 ++ V2 := by rw [← hV1, ← hV2, List.take_append_drop]
   rw [hU2, hV1] at hx
   rw [hU1, hV2] at hy
   have lu1 : U1.length = T - a := by rw [← hU1, List.length_take, HUL.out]; omega
   have lu2 : U2.length = m - T := by rw [← hU2, List.length_drop, HUL.out]; omega
   have lv1 : V1.length = E - m := by rw [← hV1, List.length_take, HVL.out]; omega
   have lv2 : V2.length = b - E := by rw [← hV2, List.length_drop, HVL.out]; omega
   have HX := Lib.hid hx
   have HY := Lib.hid hy
   have HUU := Lib.hid hUU
   have HVV := Lib.hid hVV
   have LU1 := Lib.hid lu1
   have LU2 := Lib.hid lu2
   have LV1 := Lib.hid lv1
   have LV2 := Lib.hid lv2
   have HE := Lib.hid hE
   have R0 : Hid (RowE encEt wo g (P ++ U1 ++ U2 ++ V1 ++ (V2 ++ S))) := by have := RW.out; rw [hUU, hVV] at this; rw [Hid]; simpa using this
   have SU := HSU.out
   have SV := HSV.out
   rw [hUU] at SU
   rw [hVV] at SV
   have SU' := Lib.hid SU
   have SV' := Lib.hid SV
   have OU : Hid ((∀ x ∈ U1, okK x) ∧ ∀ x ∈ U2, okK x) := ⟨fun x hx => HOU.out x (by rw [hUU]; simp [hx]), fun x hx => HOU.out x (by rw [hUU]; simp [hx])⟩
   have OV : Hid ((∀ x ∈ V1, okK x) ∧ ∀ x ∈ V2, okK x) := ⟨fun x hx => HOV.out x (by rw [hVV]; simp [hx]), fun x hx => HOV.out x (by rw [hVV]; simp [hx])⟩
   have hTN : T ≤ N ∧ E ≤ N := by omega
   have HEB := Lib.hid hEb
   clear hx hy hU1 hU2 hV1 hV2 hUU hVV lu1 lu2 lv1 lv2 SU SV hE hlt LO HI RW hEb
   go_upto_region 39 with fail
   go_cut [185] (fun c wx => c = .bool (decide (T < m) && decide (m < E)) ∧ wx = wo)
   case first =>
    as_aux_lemma =>
     by_cases hc1 : T < m <;> by_cases hc2 : m < E
     all_goals
      go_wp2_with fail
      go_meet
      exact ⟨by simp [hc1, hc2], rfl⟩
   case rest =>
   obtain ⟨rfl, hwx⟩ := hcut
   obtain rfl : wo = wc := hwx.symm
   obtain ⟨q1, hq1⟩ : ∃ q, (decide (T < m) && decide (m < E)) = q := ⟨_, rfl⟩
   rw [hq1]
   have HQ1 := Lib.hid hq1
   clear hq1 hwx
   go_upto_if 185 with fail
   go_cut [] (fun wx => RowE encEt wx g (P ++ U1 ++ V1 ++ U2 ++ V2 ++ S) ∧ Fr (S1 g) w wx)
   case first =>
    as_aux_lemma =>
     cases q1 with
     | true =>
      have hcc : T < m ∧ m < E := by have := HQ1.out; rw [Bool.and_eq_true, decide_eq_true_eq, decide_eq_true_eq] at this; exact this
      go_wp2_with (go_at_call 235; refine (rotate_any g cap N cmpV (P ++ U1) U2 V1 (V2 ++ S) _ R0.out (by simp only [List.length_append, LU1.out, LU2.out, LV1.out, LV2.out, HLS.out, ← HA.out]; have := HNS.out; have := HEB.out; omega) hcap HM.out (by rw [LU2.out]; omega) (by rw [LV1.out]; omega) T m E (by rw [List.length_append, LU1.out, ← HA.out]; have := HEB.out; omega) (by rw [List.length_append, LU1.out, LU2.out, ← HA.out]; have := HEB.out; omega) (by rw [List.length_append, LU1.out, LU2.out, LV1.out, ← HA.out]; have := HEB.out; omega)).mono ?_; rintro e w6 ⟨rfl, r6, f6⟩; have R6 := Lib.hid r6; have F6 := Lib.hid (F.out.trans f6); clear r6 f6)
      go_meet
      exact ⟨by have := R6.out; simpa using this, F6.out⟩
     | false =>
      have e : V1 = [] ∨ U2 = [] := by
       by_cases hc1 : T < m
       ·refine .inl (List.length_eq_zero_iff.1 ?_)
        rw [LV1.out]
        have := HQ1.out
        rw [decide_eq_true hc1, Bool.true_and, decide_eq_false_iff_not] at this
        omega
       ·exact .inr (List.length_eq_zero_iff.1 (by rw [LU2.out]; omega))
      have R6 : Hid (RowE encEt wo g (P ++ U1 ++ V1 ++ U2 ++ V2 ++ S)) := by
       have := R0.out
       rcases e with e | e <;> (rw [e] at this ⊢; rw [Hid]; simpa using this)
      clear e
      go_wp2_with fail
      go_meet
      exact ⟨R6.out, F.out⟩
   case rest =>
   obtain ⟨hr6, hf6⟩ := hcut
   obtain ⟨w6, rfl⟩ : ∃ w6 : World, w6 = wc := ⟨_, rfl⟩
   have R6 : Hid (RowE encEt w6 g (P ++ U1 ++ V1 ++ (U2 ++ V2 ++ S))) := by rw [Hid]; simpa using hr6
   have F6 := Lib.hid hf6
   clear hr6 hf6 R0 F
   go_upto_region 41 with fail
   go_cut [199] (fun c wx => c = .bool (decide (a < T) && decide (T < mid)) ∧ wx = w6)
   case first =>
    as_aux_lemma =>
     by_cases hc1 : a < T <;> by_cases hc2 : T < mid
     all_goals
      go_wp2_with fail
      go_meet
      exact ⟨by simp [hc1, hc2], rfl⟩
   case rest =>
   obtain ⟨rfl, hwx⟩ := hcut
   obtain rfl : w6 = wc := hwx.symm
   obtain ⟨q2, hq2⟩ : ∃ q, (decide (a < T) && decide (T < mid)) = q := ⟨_, rfl⟩
   rw [hq2]
   have HQ2 := Lib.hid hq2
   clear hq2 hwx
   go_upto_if 199 with fail
   go_cut [] (fun wx => ∃ R1, MergeS kV U1 V1 R1 ∧ RowE encEt wx g (P ++ R1 ++ U2 ++ V2 ++ S) ∧ Fr (S1 g) w wx)
   case first =>
    as_aux_lemma =>
     cases q2 with
     | true =>
      have hcc : a < T ∧ T < mid := by have := HQ2.out; rw [Bool.and_eq_true, decide_eq_true_eq, decide_eq_true_eq] at this; exact this
      go_wp2_with (go_at_call 227; refine (IH.out P U1 V1 (U2 ++ V2 ++ S) _ a T mid (by rw [LU1.out, LV1.out]; have := HEB.out; have := HKK.out; omega) (by rw [LU1.out]; omega) (by rw [LV1.out]; have := HEB.out; omega) R6.out (by simp only [List.length_append, LU1.out, LU2.out, LV1.out, LV2.out, HLS.out, ← HA.out]; have := HNS.out; have := HEB.out; omega) OU.out.1 OV.out.1 (KSort.append.1 SU'.out).1 (KSort.append.1 SV'.out).1 HA.out (by rw [LU1.out]; have := HEB.out; omega) (by rw [LV1.out]; have := HEB.out; omega)).mono ?_; rintro e w7 ⟨R1, rfl, m7, r7, f7⟩; have M7 := Lib.hid m7; have R7 := Lib.hid r7; have F7 := Lib.hid (F6.out.trans f7); clear m7 r7 f7)
      go_meet
      exact ⟨R1, M7.out, by have := R7.out; simpa using this, F7.out⟩
     | false =>
      have MR : Hid (∃ R1, MergeS kV U1 V1 R1 ∧ RowE encEt w6 g (P ++ R1 ++ U2 ++ V2 ++ S)) := by
       have h6 := R6.out
       by_cases hc1 : a < T
       ·have e : V1 = [] := List.length_eq_zero_iff.1 (by
         rw [LV1.out]
         have := HQ2.out
         rw [decide_eq_true hc1, Bool.true_and, decide_eq_false_iff_not] at this
         have := HEB.out
         omega)
        exact ⟨U1, by rw [e]; exact MergeS.left (KSort.append.1 SU'.out).1, by rw [e] at h6; simpa using h6⟩
       ·have e : U1 = [] := List.length_eq_zero_iff.1 (by rw [LU1.out]; omega)
        exact ⟨V1, by rw [e]; exact MergeS.right (KSort.append.1 SV'.out).1, by rw [e] at h6; simpa using h6⟩
      go_wp2_with fail
      go_meet
      obtain ⟨R1, h1, h2⟩ := MR.out
      exact ⟨R1, h1, h2, F6.out⟩
   case rest =>
   obtain ⟨R1, hm7, hr7, hf7⟩ := hcut
   obtain ⟨w7, rfl⟩ : ∃ w7 : World, w7 = wc := ⟨_, rfl⟩
   have M7 := Lib.hid hm7
   have R7 : Hid (RowE encEt w7 g ((P ++ R1) ++ U2 ++ V2 ++ S)) := by rw [Hid]; simpa using hr7
   have F7 := Lib.hid hf7
   have lr1 : (P ++ R1).length = mid := by
    have := hm7.1.length
    rw [List.length_append, LU1.out, LV1.out] at this
    rw [List.length_append, ← this, ← HA.out]
    have := HEB.out
    omega
   have LR1 := Lib.hid lr1
   clear hm7 hr7 hf7 R6 F6 lr1
   have fin : ∀ R2, MergeS kV U2 V2 R2 → MergeS kV U V (R1 ++ R2) := fun R2 h2 => by
    have := MergeS.two SU'.out SV'.out HX.out HY.out M7.out h2
    rw [← HUU.out, ← HVV.out] at this
    exact this
   have FIN := Lib.hid fin
   clear fin
   by_cases hc1 : mid < E
   ·by_cases hc2 : E < b
    ·go_wp2_with (go_at_call 227; refine (IH.out (P ++ R1) U2 V2 S _ mid E b (by rw [LU2.out, LV2.out]; have := HEB.out; have := HKK.out; omega) (by rw [LU2.out]; have := HEB.out; omega) (by rw [LV2.out]; omega) R7.out (by rw [LR1.out, LU2.out, LV2.out, HLS.out]; have := HNS.out; have := HEB.out; omega) OU.out.2 OV.out.2 (KSort.append.1 SU'.out).2.1 (KSort.append.1 SV'.out).2.1 LR1.out.symm (by rw [LU2.out]; have := HEB.out; omega) (by rw [LV2.out]; have := HEB.out; omega)).mono ?_; rintro e w8 ⟨R2, rfl, m8, r8, f8⟩; have M8 := Lib.hid m8; have R8 := Lib.hid r8; have F8 := Lib.hid (F7.out.trans f8); clear m8 r8 f8)
     go_end0
     exact ⟨R1 ++ R2, rfl, FIN.out R2 M8.out, by have := R8.out; simpa using this, F8.out⟩
    ·have e : V2 = [] := List.length_eq_zero_iff.1 (by rw [LV2.out]; omega)
     have M8 : Hid (MergeS kV U2 V2 U2) := by rw [e]; exact MergeS.left (KSort.append.1 SU'.out).2.1
     have R8 : Hid (RowE encEt w7 g (P ++ (R1 ++ U2) ++ S)) := by have := R7.out; rw [e] at this; rw [Hid]; simpa using this
     clear e
     go_wp2_with fail
     go_end0
     exact ⟨R1 ++ U2, rfl, FIN.out U2 M8.out, R8.out, F7.out⟩
   ·have e : U2 = [] := List.length_eq_zero_iff.1 (by rw [LU2.out]; have := HEB.out; omega)
    have M8 : Hid (MergeS kV U2 V2 V2) := by rw [e]; exact MergeS.right (KSort.append.1 SV'.out).2.1
    have R8 : Hid (RowE encEt w7 g (P ++ (R1 ++ V2) ++ S)) := by have := R7.out; rw [e] at this; rw [Hid]; simpa using this
    clear e
    go_wp2_with fail
    go_end0
    exact ⟨R1 ++ V2, rfl, FIN.out V2 M8.out, R8.out, F7.out⟩
theorem symMerge_all (g cap N : Nat) (hcap : N ≤ cap) (hm : cap ≤ maxLen) (hbig : N ≤ 4294967296) : ∀ k, SymP g cap N k
 | 0 => fun P U V S w a m b hk hu hv => by omega
 | k + 1 => fun P U V S w a m b hk hu hv h hN hou hov hsu hsv ha hmm hb => by
  by_cases h1 : U.length = 1
  ·obtain ⟨u, rfl⟩ := List.length_eq_one_iff.1 h1
   exact symOneL g cap N P V S u w h (by simpa using hN) hcap hm hbig (hou u (by simp)) hov hsv a m b ha (by simpa using hmm) (by simp at hmm; omega)
  ·by_cases h2 : V.length = 1
   ·obtain ⟨v, rfl⟩ := List.length_eq_one_iff.1 h2
    exact symOneR g cap N P U S v w h (by simpa using hN) hcap hm hbig (by omega) (hov v (by simp)) hou hsu a m b ha hmm (by simpa using hb)
   ·exact symGen g cap N k hcap hm hbig (symMerge_all g cap N hcap hm hbig k) P U V S w a m b hk (by omega) (by omega) h hN hou hov hsu hsv ha hmm hb
end Go.Proofs.YtlfikhblmbidmaaGreatDoor