import Derived.Test.YtlfikhblmbidmaaGreatDoorEsR
set_option linter.all false
namespace Go.Proofs.YtlfikhblmbidmaaGreatDoor
open Go.RowKit Go.Maps Go.Shelf Go.Sort
theorem swapRange_int (g cap N : Nat) (fv : Value) (P X Q Y S : List Et) (w : World) (h : RowE encEt w g (P ++ X ++ Q ++ Y ++ S)) (hxy : X.length = Y.length) (hN : N = P.length + X.length + Q.length + Y.length + S.length) (hcap : N ≤ cap) (hm : cap ≤ maxLen) (a b n : Int) (ha : a = (P.length : Int)) (hb : b = (P.length : Int) + (X.length : Int) + (Q.length : Int)) (hn : n = (X.length : Int)) :
  Calls Tryz.prog 249 #[.slice (some ⟨g, 0, none⟩) N cap, .int .i64 a, .int .i64 b, .int .i64 n, fv] w fun e w' => e = .returned (.tuple #[]) ∧ RowE encEt w' g (P ++ Y ++ Q ++ X ++ S) ∧ Fr (S1 g) w w' := by
 have e : b = ((P.length + X.length + Q.length : Nat) : Int) := by omega
 subst ha hn
 rw [e]
 exact swapRange_any g cap N fv P X Q Y S w h hxy (by simp only [List.length_append]; omega) hcap hm _ _ _ rfl rfl rfl
set_option maxRecDepth 100000 in
set_option maxHeartbeats 4000000 in
theorem rotate_any (g cap N : Nat) (fv : Value) (P X Y S : List Et) (w : World) (h : RowE encEt w g (P ++ X ++ Y ++ S)) (hN : N = P.length + X.length + Y.length + S.length) (hcap : N ≤ cap) (hm : cap ≤ maxLen) (hx : 0 < X.length) (hy : 0 < Y.length) (a m b : Nat) (ha : a = P.length) (hmm : m = P.length + X.length) (hb : b = P.length + X.length + Y.length) :
  Calls Tryz.prog 235 #[.slice (some ⟨g, 0, none⟩) N cap, .int .i64 (a : Int), .int .i64 (m : Int), .int .i64 (b : Int), fv] w fun e w' => e = .returned (.tuple #[]) ∧ RowE encEt w' g (P ++ Y ++ X ++ S) ∧ Fr (S1 g) w w' := by
 have hml : cap ≤ 9223372036854775807 := by unfold maxLen at hm; omega
 have H := Lib.hid h
 have HM := Lib.hid hm
 obtain ⟨lp, hlp⟩ : ∃ l, P.length = l := ⟨_, rfl⟩
 obtain ⟨lx, hlx⟩ : ∃ l, X.length = l := ⟨_, rfl⟩
 obtain ⟨ly, hly⟩ : ∃ l, Y.length = l := ⟨_, rfl⟩
 obtain ⟨ls, hls⟩ : ∃ l, S.length = l := ⟨_, rfl⟩
 rw [hlp, hlx, hly, hls] at hN
 rw [hlx] at hx
 rw [hly] at hy
 have h1 : a ≤ m ∧ m ≤ b ∧ b ≤ N := by omega
 have h2 : m - a = lx := by omega
 have h3 : b - m = ly := by omega
 have HN := Lib.hid hN
 have HLP := Lib.hid hlp
 have HLX := Lib.hid hlx
 have HLY := Lib.hid hly
 have HLS := Lib.hid hls
 have HMM : Hid (m = lp + lx) := by rw [Hid]; omega
 have HD1 : Hid ((m : Int) - (a : Int) = (lx : Int)) := by rw [Hid]; omega
 have HD2 : Hid ((b : Int) - (m : Int) = (ly : Int)) := by rw [Hid]; omega
 clear h hm hlp hlx hly hls ha hmm hb h2 h3 hN
 go_enter Tryz.func235, Tryz.ntmps235
 go_wp2_with fail
 go_loopg [10, 11] (lx + ly) (fun gh ci cj wr => ∃ (A U V B : List Et) (i j : Nat), gh = i + j ∧ ci = .int .i64 (i : Int) ∧ cj = .int .i64 (j : Int) ∧ U.length = i ∧ V.length = j ∧ 0 < i ∧ 0 < j ∧ P.length + A.length + i = m ∧ A ++ (V ++ U) ++ B = Y ++ X ∧ RowE encEt wr g (P ++ A ++ U ++ V ++ B ++ S) ∧ Fr (S1 g) w wr)
 case atStart => exact ⟨[], X, Y, [], lx, ly, rfl, by rw [HD1.out], by rw [HD2.out], HLX.out, HLY.out, hx, hy, by rw [HLP.out, HMM.out]; simp, by simp, by simpa using H.out, Fr.refl _ _⟩
 case round =>
  obtain ⟨A, U, V, B, i, j, rfl, rfl, rfl, hu, hv, hi0, hj0, hpm, heq, hrow, hfr⟩ := hrel
  obtain ⟨wo, rfl⟩ : ∃ wo : World, wo = wr := ⟨_, rfl⟩
  have R := Lib.hid hrow
  have F := Lib.hid hfr
  have HEQ := Lib.hid heq
  have HU := Lib.hid hu
  have HV := Lib.hid hv
  obtain ⟨la, hla⟩ : ∃ l, A.length = l := ⟨_, rfl⟩
  obtain ⟨lb, hlb⟩ : ∃ l, B.length = l := ⟨_, rfl⟩
  have hsum : la + (j + i) + lb = ly + lx := by
   have := congrArg List.length heq
   simp only [List.length_append, hu, hv, hla, hlb, HLX.out, HLY.out] at this
   exact this
  rw [HLP.out, hla] at hpm
  have HLA := Lib.hid hla
  have HLB := Lib.hid hlb
  have HPM := Lib.hid hpm
  have hmi : i ≤ m := by omega
  have hmj : m + j ≤ N := by have := HN.out; have := HMM.out; omega
  have HSUM := Lib.hid hsum
  clear hrow hfr heq hu hv hla hlb hpm hsum
  by_cases hne : i = j
  ·subst hne
   have R2 : Hid (RowE encEt wo g ((P ++ A) ++ U ++ [] ++ V ++ (B ++ S))) := by have := R.out; rw [Hid]; simpa using this
   go_wp2_with (go_at_call 249; refine (swapRange_int g cap N fv (P ++ A) U [] V (B ++ S) _ R2.out (by rw [HU.out, HV.out]) (by simp only [List.length_append, List.length_nil, HLP.out, HLA.out, HU.out, HV.out, HLB.out, HLS.out]; have := HN.out; have := HSUM.out; have := HPM.out; have := HMM.out; omega) hcap HM.out _ _ _ (by rw [List.length_append, HLP.out, HLA.out]; have := HPM.out; omega) (by rw [List.length_append, List.length_nil, HLP.out, HLA.out, HU.out]; have := HPM.out; omega) (by rw [HU.out])).mono ?_; rintro e w2 ⟨rfl, r2, f2⟩; have RA := Lib.hid r2; have FA := Lib.hid (F.out.trans f2); clear r2 f2)
   go_end0
   refine ⟨rfl, ?_, FA.out⟩
   have h1 := RA.out
   have e : (P ++ A) ++ V ++ [] ++ U ++ (B ++ S) = P ++ (A ++ (V ++ U) ++ B) ++ S := by simp
   rw [e, HEQ.out] at h1
   simpa using h1
  ·by_cases hgt : j < i
   ·obtain ⟨U1, hU1⟩ : ∃ l, U.take j = l := ⟨_, rfl⟩
    obtain ⟨U2, hU2⟩ : ∃ l, U.drop j = l := ⟨_, rfl⟩
    have hUU : U = U1 ++ U2 := by rw [← hU1, ← hU2, List.take_append_drop]
    have hu1 : U1.length = j := by rw [← hU1, List.length_take, HU.out]; omega
    have hu2 : U2.length = i - j := by rw [← hU2, List.length_drop, HU.out]
    have R2 : Hid (RowE encEt wo g ((P ++ A) ++ U1 ++ U2 ++ V ++ (B ++ S))) := by have := R.out; rw [hUU] at this; rw [Hid]; simpa using this
    have HEQ2 : Hid ((A ++ V) ++ (U1 ++ U2) ++ B = Y ++ X) := by have := HEQ.out; rw [hUU] at this; rw [Hid]; simpa using this
    have HU1 := Lib.hid hu1
    have HU2 := Lib.hid hu2
    clear hU1 hU2 hUU hu1 hu2
    go_wp2_with (go_at_call 249; refine (swapRange_int g cap N fv (P ++ A) U1 U2 V (B ++ S) _ R2.out (by rw [HU1.out, HV.out]) (by simp only [List.length_append, HLP.out, HLA.out, HU1.out, HU2.out, HV.out, HLB.out, HLS.out]; have := HN.out; have := HSUM.out; have := HPM.out; have := HMM.out; omega) hcap HM.out _ _ _ (by rw [List.length_append, HLP.out, HLA.out]; have := HPM.out; omega) (by rw [List.length_append, HLP.out, HLA.out, HU1.out, HU2.out]; have := HPM.out; omega) (by rw [HU1.out])).mono ?_; rintro e w2 ⟨rfl, r2, f2⟩; have RA := Lib.hid r2; have FA := Lib.hid (F.out.trans f2); clear r2 f2)
    have R3 : Hid (RowE encEt w2 g (P ++ (A ++ V) ++ U2 ++ U1 ++ B ++ S)) := by have := RA.out; rw [Hid]; simpa using this
    go_roundg (i - j + j)
    case measure => omega
    case rel => exact ⟨A ++ V, U2, U1, B, i - j, j, rfl, by go_num, rfl, HU2.out, HU1.out, by omega, hj0, by rw [List.length_append, HLP.out, HLA.out, HV.out]; have := HPM.out; omega, HEQ2.out, R3.out, FA.out⟩
   ·obtain ⟨V1, hV1⟩ : ∃ l, V.take (j - i) = l := ⟨_, rfl⟩
    obtain ⟨V2, hV2⟩ : ∃ l, V.drop (j - i) = l := ⟨_, rfl⟩
    have hVV : V = V1 ++ V2 := by rw [← hV1, ← hV2, List.take_append_drop]
    have hv1 : V1.length = j - i := by rw [← hV1, List.length_take, HV.out]; omega
    have hv2 : V2.length = i := by rw [← hV2, List.length_drop, HV.out]; omega
    have R2 : Hid (RowE encEt wo g ((P ++ A) ++ U ++ V1 ++ V2 ++ (B ++ S))) := by have := R.out; rw [hVV] at this; rw [Hid]; simpa using this
    have HEQ2 : Hid (A ++ (V1 ++ V2) ++ (U ++ B) = Y ++ X) := by have := HEQ.out; rw [hVV] at this; rw [Hid]; simpa using this
    have HV1 := Lib.hid hv1
    have HV2 := Lib.hid hv2
    have hji : i < j := by omega
    clear hV1 hV2 hVV hv1 hv2
    go_wp2_with (go_at_call 249; refine (swapRange_int g cap N fv (P ++ A) U V1 V2 (B ++ S) _ R2.out (by rw [HU.out, HV2.out]) (by simp only [List.length_append, HLP.out, HLA.out, HU.out, HV1.out, HV2.out, HLB.out, HLS.out]; have := HN.out; have := HSUM.out; have := HPM.out; have := HMM.out; omega) hcap HM.out _ _ _ (by rw [List.length_append, HLP.out, HLA.out]; have := HPM.out; omega) (by rw [List.length_append, HLP.out, HLA.out, HU.out, HV1.out]; have := HPM.out; omega) (by rw [HU.out])).mono ?_; rintro e w2 ⟨rfl, r2, f2⟩; have RA := Lib.hid r2; have FA := Lib.hid (F.out.trans f2); clear r2 f2)
    have R3 : Hid (RowE encEt w2 g (P ++ A ++ V2 ++ V1 ++ (U ++ B) ++ S)) := by have := RA.out; rw [Hid]; simpa using this
    go_roundg (i + (j - i))
    case measure => omega
    case rel => exact ⟨A, V2, V1, U ++ B, i, j - i, rfl, rfl, by go_num, HV2.out, HV1.out, hi0, by omega, by rw [HLP.out, HLA.out]; exact HPM.out, HEQ2.out, R3.out, FA.out⟩
end Go.Proofs.YtlfikhblmbidmaaGreatDoor