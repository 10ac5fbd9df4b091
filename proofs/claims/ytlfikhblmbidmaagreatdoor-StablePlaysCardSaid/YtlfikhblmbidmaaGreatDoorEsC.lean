import Derived.Test.YtlfikhblmbidmaaGreatDoorEsT
set_option linter.all false
namespace Go.Proofs.YtlfikhblmbidmaaGreatDoor
open Go.RowKit Go.Maps Go.Shelf Go.Sort
theorem KSame.ok {L M : List Et} (h : KSame kV L M) (ho : ∀ x ∈ L, okK x) : ∀ x ∈ M, okK x := fun x hx => ho x (h.perm.mem_iff.2 hx)
set_option maxRecDepth 100000 in
set_option maxHeartbeats 8000000 in
theorem stable_any (g cap N : Nat) (L : List Et) (w : World) (h : RowE encEt w g L) (hN : N = L.length) (hcap : N ≤ cap) (hm : cap ≤ maxLen) (hbig : N ≤ 4294967296) (hok : ∀ x ∈ L, okK x) :
  Calls Tryz.prog 207 #[.slice (some ⟨g, 0, none⟩) N cap, .int .i64 (N : Int), cmpV] w fun e w' => ∃ R, e = .returned (.tuple #[]) ∧ Srtd L R ∧ RowE encEt w' g R ∧ Fr (S1 g) w w' := by
 have hml : cap ≤ 9223372036854775807 := by unfold maxLen at hm; omega
 have H := Lib.hid h
 have HM := Lib.hid hm
 have HOK := Lib.hid hok
 have HNL := Lib.hid hN
 clear h hm hok hN
 go_enter Tryz.func207, Tryz.ntmps207
 go_wp2_with fail
 go_loopg [7, 8] N (fun gh ca cb wr => ∃ (a b : Nat) (D T : List Et), a ≤ N ∧ gh = N - a ∧ ca = .int .i64 (a : Int) ∧ cb = .int .i64 (b : Int) ∧ b = a + 20 ∧ D.length = a ∧ (∃ q, a = q * 20) ∧ T.length = N - a ∧ Chk kV 20 D ∧ KSame kV L (D ++ T) ∧ RowE encEt wr g (D ++ T) ∧ Fr (S1 g) w wr)
 case atStart => exact ⟨0, 20, [], L, by omega, by omega, rfl, rfl, rfl, rfl, ⟨0, by omega⟩, by rw [← HNL.out]; omega, Chk.nil, KSame.refl _, H.out, Fr.refl _ _⟩
 case round =>
  obtain ⟨a, b, D, T, haN, rfl, rfl, rfl, hba, hdl, hq, htl, hck, hks, hrow, hfr⟩ := hrel
  obtain ⟨wo, rfl⟩ : ∃ wo : World, wo = wr := ⟨_, rfl⟩
  have HD := Lib.hid hdl
  have HQ := Lib.hid hq
  have HT := Lib.hid htl
  have CK := Lib.hid hck
  have KS := Lib.hid hks
  have RW := Lib.hid hrow
  have F := Lib.hid hfr
  have HBA := Lib.hid hba
  have hab : a < b := by omega
  have hb2 : b ≤ N + 20 := by omega
  clear hdl hq htl hck hks hrow hfr H hba
  by_cases hle : b ≤ N
  case pos =>
   have lt1 : (T.take 20).length = 20 := by rw [List.length_take, HT.out]; have := HBA.out; omega
   have R0 : Hid (RowE encEt wo g (D ++ T.take 20 ++ T.drop 20)) := by have := RW.out; rw [Hid, List.append_assoc, List.take_append_drop]; exact this
   have OK : Hid (∀ x ∈ T.take 20, okK x) := fun x hx => KS.out.ok HOK.out x (by simp [List.mem_of_mem_take hx])
   have LT1 := Lib.hid lt1
   have ld : Hid ((T.drop 20).length = N - b) := by rw [Hid, List.length_drop, HT.out]; have := HBA.out; omega
   clear lt1
   go_wp2_with (go_at_call 226; refine (insertion_any g cap N D (T.take 20) (T.drop 20) _ R0.out (by rw [HD.out, LT1.out, ld.out]; have := HBA.out; omega) hcap HM.out hbig OK.out a b HD.out.symm (by rw [HD.out, LT1.out]; exact HBA.out)).mono ?_; rintro e w2 ⟨R, rfl, s2, r2, f2⟩; have SR := Lib.hid s2; have R2 := Lib.hid r2; have F2 := Lib.hid (F.out.trans f2); clear s2 r2 f2)
   have hrl : R.length = 20 := by have := SR.out.1.length; rw [LT1.out] at this; exact this.symm
   have CK2 : Hid (Chk kV 20 (D ++ R)) := by
    obtain ⟨q, hq⟩ := HQ.out
    exact CK.out.last (n := q) (by rw [HD.out]; exact hq) SR.out.2 (by omega)
   have KS2 : Hid (KSame kV L ((D ++ R) ++ T.drop 20)) := by
    have h1 : KSame kV (D ++ T) ((D ++ R) ++ T.drop 20) := by
     have := KSame.append (KSame.append (KSame.refl (key := kV) D) SR.out.1) (KSame.refl (key := kV) (T.drop 20))
     rw [List.append_assoc, List.take_append_drop] at this
     exact this
    exact KS.out.trans h1
   have DL : Hid ((D ++ R).length = b) := by rw [Hid, List.length_append, HD.out, hrl]; exact HBA.out.symm
   have QB : Hid (∃ q, b = q * 20) := by
    obtain ⟨q, hq⟩ := HQ.out
    exact ⟨q + 1, by have := HBA.out; omega⟩
   clear hrl
   go_roundg (N - b)
   case measure => omega
   case rel => exact ⟨b, b + 20, D ++ R, T.drop 20, hle, rfl, rfl, by go_num, rfl, DL.out, QB.out, ld.out, CK2.out, KS2.out, R2.out, F2.out⟩
  case neg =>
   have R0 : Hid (RowE encEt wo g (D ++ T ++ [])) := by have := RW.out; rw [Hid, List.append_nil]; exact this
   have OK : Hid (∀ x ∈ T, okK x) := fun x hx => KS.out.ok HOK.out x (by simp [hx])
   go_wp2_with (go_at_call 226; refine (insertion_any g cap N D T [] _ R0.out (by rw [HD.out, HT.out, List.length_nil]; omega) hcap HM.out hbig OK.out a N HD.out.symm (by rw [HD.out, HT.out]; omega)).mono ?_; rintro e w2 ⟨R, rfl, s2, r2, f2⟩; have SR := Lib.hid s2; have R2 := Lib.hid r2; have F2 := Lib.hid (F.out.trans f2); clear s2 r2 f2)
   have hrl : R.length = N - a := by have := SR.out.1.length; rw [HT.out] at this; exact this.symm
   have CK2 : Hid (Chk kV 20 (D ++ R)) := by
    obtain ⟨q, hq⟩ := HQ.out
    exact CK.out.last (n := q) (by rw [HD.out]; exact hq) SR.out.2 (by have := HBA.out; omega)
   have KS2 : Hid (KSame kV L (D ++ R)) := KS.out.trans (KSame.append (KSame.refl (key := kV) D) SR.out.1)
   have RA : Hid (RowE encEt w2 g (D ++ R)) := by have := R2.out; rw [List.append_nil] at this; exact this
   clear hrl HD HQ HT CK KS RW F HBA hab hb2 R0 OK SR R2 hle
   go_loopg [6] (N - 20) (fun gh cs wr => ∃ (k : Nat) (M : List Et), 1 ≤ k ∧ k ≤ 2 * N + 20 ∧ gh = N - k ∧ cs = .int .i64 (k : Int) ∧ Chk kV k M ∧ KSame kV L M ∧ RowE encEt wr g M ∧ Fr (S1 g) w wr)
   case atStart => exact ⟨20, D ++ R, by omega, by omega, by omega, rfl, CK2.out, KS2.out, RA.out, F2.out⟩
   case round =>
    clear CK2 KS2 RA F2
    obtain ⟨k, M, hk1, hkN, rfl, rfl, hck, hks, hrow, hfr⟩ := hrel
    obtain ⟨wo, rfl⟩ : ∃ wo : World, wo = wr := ⟨_, rfl⟩
    have CK := Lib.hid hck
    have KS := Lib.hid hks
    have RW := Lib.hid hrow
    have F := Lib.hid hfr
    have ML : Hid (M.length = N) := by rw [Hid, ← hks.length, ← HNL.out]
    clear hck hks hrow hfr
    by_cases hlt : k < N
    case neg =>
     have S2 : Hid (Srtd L M) := ⟨KS.out, CK.out.all (by rw [ML.out]; omega)⟩
     have hge : N ≤ k := by omega
     go_wp2_with fail
     go_end0
     exact ⟨M, rfl, S2.out, RW.out, F.out⟩
    case pos =>
    go_upto_block 4 with fail
    go_wp2_with fail
    go_loopg [7, 8] N (fun gh ca cb wr => ∃ (a b : Nat) (D T : List Et), a ≤ N ∧ gh = N - a ∧ ca = .int .i64 (a : Int) ∧ cb = .int .i64 (b : Int) ∧ b = a + 2 * k ∧ D.length = a ∧ (∃ q, a = q * (2 * k)) ∧ T.length = N - a ∧ Chk kV (2 * k) D ∧ Chk kV k T ∧ KSame kV L (D ++ T) ∧ RowE encEt wr g (D ++ T) ∧ Fr (S1 g) w wr)
    case atStart => exact ⟨0, 2 * k, [], M, by omega, by omega, rfl, by go_num, by omega, rfl, ⟨0, by omega⟩, by rw [ML.out]; omega, Chk.nil, CK.out, KS.out, RW.out, F.out⟩
    case round =>
     clear CK KS RW F ML
     obtain ⟨a, b, D, T, haN, rfl, rfl, rfl, hba, hdl, hq, htl, hcd, hct, hks, hrow, hfr⟩ := hrel
     obtain ⟨wi, rfl⟩ : ∃ wi : World, wi = wr := ⟨_, rfl⟩
     have HD := Lib.hid hdl
     have HQ := Lib.hid hq
     have HT := Lib.hid htl
     have CD := Lib.hid hcd
     have CT := Lib.hid hct
     have KS := Lib.hid hks
     have RW := Lib.hid hrow
     have F := Lib.hid hfr
     have HBA := Lib.hid hba
     have hab : a + k < b ∧ b ≤ 3 * N + 60 + a := by omega
     obtain ⟨m, hmm⟩ : ∃ m, a + k = m := ⟨_, rfl⟩
     have hmz : (a : Int) + (k : Int) = (m : Int) := by omega
     obtain ⟨b2, hb2⟩ : ∃ b2, b + 2 * k = b2 := ⟨_, rfl⟩
     have hbz : (b : Int) + 2 * (k : Int) = (b2 : Int) := by omega
     have HB2 := Lib.hid hb2
     have HMM := Lib.hid hmm
     have UU : Hid (T = T.take k ++ T.drop k) := (List.take_append_drop _ _).symm
     have SU : Hid (KSort kV (T.take k)) := CT.out.head
     have OKT : Hid (∀ x ∈ T, okK x) := fun x hx => KS.out.ok HOK.out x (by simp [hx])
     have SV : Hid (KSort kV ((T.drop k).take k)) := by have := CT.out 1; rw [Nat.one_mul] at this; exact this
     clear hdl hq htl hcd hct hks hrow hfr hba hmm hb2
     by_cases hle : b ≤ N
     case pos =>
      have l1 : (T.take k).length = k := by rw [List.length_take, HT.out]; have := HBA.out; omega
      have l2 : ((T.drop k).take k).length = k := by rw [List.length_take, List.length_drop, HT.out]; have := HBA.out; omega
      have l3 : ((T.drop k).drop k).length = N - b := by rw [List.length_drop, List.length_drop, HT.out]; have := HBA.out; omega
      have eT : D ++ T.take k ++ (T.drop k).take k ++ (T.drop k).drop k = D ++ T := by rw [List.append_assoc, List.take_append_drop, List.append_assoc, List.take_append_drop]
      have R0 : Hid (RowE encEt wi g (D ++ T.take k ++ (T.drop k).take k ++ (T.drop k).drop k)) := by rw [Hid, eT]; exact RW.out
      have L1 := Lib.hid l1
      have L2 := Lib.hid l2
      have L3 := Lib.hid l3
      have ET := Lib.hid eT
      clear l1 l2 l3 eT
      go_wp2_with (go_at_call 227; refine (symMerge_all g cap N hcap HM.out hbig (2 * k) D (T.take k) ((T.drop k).take k) ((T.drop k).drop k) _ a m b (by rw [L1.out, L2.out]; omega) (by rw [L1.out]; omega) (by rw [L2.out]; omega) R0.out (by rw [HD.out, L1.out, L2.out, L3.out]; have := HBA.out; omega) (fun x hx => OKT.out x (List.mem_of_mem_take hx)) (fun x hx => OKT.out x (List.mem_of_mem_drop (List.mem_of_mem_take hx))) SU.out SV.out HD.out.symm (by rw [L1.out]; exact HMM.out.symm) (by rw [L2.out]; have := HBA.out; have := HMM.out; omega)).mono ?_; rintro e w3 ⟨R, rfl, m3, r3, f3⟩; have M3 := Lib.hid m3; have R3 := Lib.hid r3; have F3 := Lib.hid (F.out.trans f3); clear m3 r3 f3)
      have hrl : R.length = 2 * k := by have := M3.out.1.length; rw [List.length_append, L1.out, L2.out] at this; omega
      have CD2 : Hid (Chk kV (2 * k) (D ++ R)) := by
       obtain ⟨q, hq⟩ := HQ.out
       exact CD.out.last (n := q) (by rw [HD.out]; exact hq) M3.out.2 (by omega)
      have CT2 : Hid (Chk kV k ((T.drop k).drop k)) := by
       have h1 := CT.out
       rw [← List.take_append_drop (2 * k) T] at h1
       have h2 := h1.drop (n := 2) (by rw [List.length_take, HT.out]; have := HBA.out; omega)
       rw [Hid, List.drop_drop, show k + k = 2 * k by omega]
       exact h2
      have KS2 : Hid (KSame kV L ((D ++ R) ++ (T.drop k).drop k)) := by
       refine KS.out.trans ?_
       have := KSame.append (KSame.append (KSame.refl (key := kV) D) M3.out.1) (KSame.refl (key := kV) ((T.drop k).drop k))
       rw [← List.append_assoc, ET.out] at this
       exact this
      have DL : Hid ((D ++ R).length = b) := by rw [Hid, List.length_append, HD.out, hrl]; exact HBA.out.symm
      have QB : Hid (∃ q, b = q * (2 * k)) := by
       obtain ⟨q, hq⟩ := HQ.out
       exact ⟨q + 1, by rw [Nat.succ_mul, ← hq]; exact HBA.out⟩
      clear hrl
      go_roundg (N - b)
      case measure => omega
      case rel => exact ⟨b, b2, D ++ R, (T.drop k).drop k, hle, rfl, rfl, rfl, HB2.out.symm, DL.out, QB.out, L3.out, CD2.out, CT2.out, KS2.out, R3.out, F3.out⟩
     case neg =>
      obtain ⟨k2, hk2⟩ : ∃ k2, 2 * k = k2 := ⟨_, rfl⟩
      have hkz : (k : Int) * 2 = (k2 : Int) := by omega
      have HK2 := Lib.hid hk2
      have hk2N : k < k2 ∧ k2 ≤ 2 * N := by omega
      clear hk2
      by_cases hmN : m < N
      ·have l1 : (T.take k).length = k := by rw [List.length_take, HT.out]; have := HMM.out; omega
       have l2 : (T.drop k).length = N - m := by rw [List.length_drop, HT.out]; have := HMM.out; omega
       have hv2 : (T.drop k).take k = T.drop k := List.take_of_length_le (by rw [l2]; have := HBA.out; have := HMM.out; omega)
       have SV2 : Hid (KSort kV (T.drop k)) := by have := SV.out; rw [hv2] at this; exact this
       have R0 : Hid (RowE encEt wi g (D ++ T.take k ++ T.drop k ++ [])) := by rw [Hid, List.append_nil, List.append_assoc, List.take_append_drop]; exact RW.out
       have L1 := Lib.hid l1
       have L2 := Lib.hid l2
       clear l1 l2 hv2
       go_wp2_with (go_at_call 227; refine (symMerge_all g cap N hcap HM.out hbig (k + (N - m)) D (T.take k) (T.drop k) [] _ a m N (by rw [L1.out, L2.out]; omega) (by rw [L1.out]; omega) (by rw [L2.out]; omega) R0.out (by rw [HD.out, L1.out, L2.out, List.length_nil]; have := HMM.out; omega) (fun x hx => OKT.out x (List.mem_of_mem_take hx)) (fun x hx => OKT.out x (List.mem_of_mem_drop hx)) SU.out SV2.out HD.out.symm (by rw [L1.out]; exact HMM.out.symm) (by rw [L2.out]; omega)).mono ?_; rintro e w3 ⟨R, rfl, m3, r3, f3⟩; have M3 := Lib.hid m3; have R3 := Lib.hid r3; have F3 := Lib.hid (F.out.trans f3); clear m3 r3 f3)
       have hrl : R.length = k + (N - m) := by have := M3.out.1.length; rw [List.length_append, L1.out, L2.out] at this; omega
       have CD2 : Hid (Chk kV (2 * k) (D ++ R)) := by
        obtain ⟨q, hq⟩ := HQ.out
        exact CD.out.last (n := q) (by rw [HD.out]; exact hq) M3.out.2 (by have := HBA.out; have := HMM.out; omega)
       have KS2 : Hid (KSame kV L (D ++ R)) := by
        refine KS.out.trans ?_
        have := KSame.append (KSame.refl (key := kV) D) M3.out.1
        rw [List.take_append_drop] at this
        exact this
       have R4 : Hid (RowE encEt w3 g (D ++ R)) := by have := R3.out; rw [List.append_nil] at this; exact this
       clear hrl
       go_roundg (N - k2)
       case measure => omega
       case rel => exact ⟨k2, D ++ R, by omega, by omega, rfl, rfl, by rw [← HK2.out]; exact CD2.out, KS2.out, R4.out, F3.out⟩
      ·have hv1 : T.take k = T := List.take_of_length_le (by rw [HT.out]; have := HMM.out; omega)
       have CD2 : Hid (Chk kV (2 * k) (D ++ T)) := by
        obtain ⟨q, hq⟩ := HQ.out
        have := SU.out
        rw [hv1] at this
        exact CD.out.last (n := q) (by rw [HD.out]; exact hq) this (by rw [HT.out]; have := HMM.out; omega)
       clear hv1
       go_wp2_with fail
       go_roundg (N - k2)
       case measure => omega
       case rel => exact ⟨k2, D ++ T, by omega, by omega, rfl, rfl, by rw [← HK2.out]; exact CD2.out, KS.out, RW.out, F.out⟩
set_option maxRecDepth 100000 in
set_option maxHeartbeats 2000000 in
theorem sortStable_any (g cap : Nat) (L : List Et) (w : World) (h : RowE encEt w g L) (hcap : L.length ≤ cap) (hm : cap ≤ maxLen) (hbig : L.length ≤ 4294967296) (hok : ∀ x ∈ L, okK x) :
  Calls Tryz.prog 162 #[.slice (some ⟨g, 0, none⟩) L.length cap, cmpV] w fun e w' => ∃ R, e = .returned (.tuple #[]) ∧ Srtd L R ∧ RowE encEt w' g R ∧ Fr (S1 g) w w' := by
 have H := Lib.hid h
 have HM := Lib.hid hm
 have HOK := Lib.hid hok
 have hml : cap ≤ 9223372036854775807 := by unfold maxLen at hm; omega
 clear h hm hok
 go_enter Tryz.func162, Tryz.ntmps162
 go_wp2_with (go_at_call 207; refine (stable_any g cap L.length L _ H.out rfl hcap HM.out hbig HOK.out).mono ?_; rintro e w2 ⟨R, rfl, s2, r2, f2⟩; have SR := Lib.hid s2; have R2 := Lib.hid r2; have F2 := Lib.hid f2; clear s2 r2 f2)
 go_end0
 exact ⟨R, rfl, SR.out, R2.out, F2.out⟩
end Go.Proofs.YtlfikhblmbidmaaGreatDoor