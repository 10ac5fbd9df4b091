import Derived.Test.YtlfikhblmbidmaaGreatDoorMrgK
import Derived.Deep.DeepCutAuto
import Derived.Deep.CutBlock
import Derived.Deep.LoopGhost
set_option linter.all false
namespace Go.Proofs.YtlfikhblmbidmaaGreatDoor
open Go.RowKit Go.Maps
section
variable {w : World} {p : Nat} {v sv : Value} {s : DSt}
theorem LRow.cutC {W : World} {A : Option Addr} {n c E : Nat} {bs : List UInt8} (h : LRow W (.slice A n c) bs) (hE : E ≤ bs.length) : LRow W (.slice A E c) (bs.take E) := by
 rcases h with ⟨h, rfl⟩ | ⟨g, cap, cur, h, hg, hle, hsz, hcap, htake⟩
 ·cases h
  simp at hE
  subst hE
  exact .inl ⟨rfl, rfl⟩
 ·cases h
  have hl : (bs.take E).length = E := by simp; omega
  refine .inr ⟨g, _, cur, by rw [hl], hg, by omega, by omega, by omega, ?_⟩
  rw [hl, List.map_take, ← htake, List.take_take, Nat.min_eq_left hE]
theorem rtear_leaf {A : Option Addr} {c E : Nat} {w5 : World} (h : RDk w p (.slice A s.b.length c) sv s) (hb : Below w.heap.size w w5) (hE : E ≤ s.b.length) :
  RDStep w p (.slice A s.b.length c) sv ((w5.setCell ⟨p, 1, none⟩ (.slice A E c)).setCell ⟨p, 2, none⟩ (.int .i64 (E : Int))) (.slice A E c) sv { s with b := s.b.take E, safe := E } := by
 have h5 := h.fr (Fr.of_below (S := S0) hb) (fun _ _ e => e)
 have fs : Fr (S1 p) w5 ((w5.setCell ⟨p, 1, none⟩ (.slice A E c)).setCell ⟨p, 2, none⟩ (.int .i64 (E : Int))) := (fr_set w5 p 1 _).trans (fr_set _ p 2 _)
 have ho : ∀ i, (Value.slice A E c).ownBlock = some i → (Value.slice A s.b.length c).ownBlock = some i := fun i e => by
  cases A with
  | none => cases e
  | some a => exact e
 refine ⟨(Fr.of_below hb).trans fs, fun i e => .inl ?_, ⟨(h5.d.set 1 _).set 2 _, (h5.row.cutC hE).fr fs (fun i e => h5.neRow (.inl (ho i e))), h5.srow.fr fs (fun i e => h5.neRow (.inr e))⟩⟩
 rcases e with e | e | e
 ·exact .inl e
 ·exact .inr (.inl (ho i e))
 ·exact .inr (.inr e)
set_option maxRecDepth 100000 in
set_option maxHeartbeats 4000000 in
theorem rdtear_any (left : Int) (h : RDk w p v sv s) (hg : DGood s) (hl : -9223372036854775808 ≤ left ∧ left ≤ 9223372036854775807) :
  Calls Tryz.prog 52 #[.pointer (some ⟨p, 0, none⟩), .int .i64 left] w fun e w' => e = .returned (.tuple #[]) ∧ ∃ v', RDStep w p v sv w' v' sv (tornD s left) := by
 have H := Lib.hid h
 obtain ⟨A, c, rfl⟩ := h.row.shape
 obtain ⟨A', c', hv', hlc, hcm⟩ := h.row.bsIn.shape
 cases hv'
 have l0 := h.d.cell (i := 0) (v := .bool true) rfl
 have l1 := h.d.cell (i := 1) (v := .slice A s.b.length c) rfl
 have l2 := h.d.cell (i := 2) (v := .int .i64 ((s.safe : Nat) : Int)) rfl
 have hs := hg.safe
 have hm := hg.most
 clear h hg
 obtain ⟨k, hkk⟩ : ∃ k, keptN s left = k := ⟨_, rfl⟩
 have hk : s.safe + k ≤ s.b.length := by rw [← hkk]; unfold keptN; omega
 go_enter Tryz.func52, Tryz.ntmps52
 go_upto_region 1 with (go_at_call 97; refine (rdvalid p _ l0).mono ?_; rintro e w' ⟨rfl, rfl⟩)
 go_cut [4] (fun c4 wx => c4 = .int .i64 ((s.safe + k : Nat) : Int) ∧ Below w.heap.size w wx)
 case first =>
  by_cases h1 : left ≤ 0 ∨ s.b.length ≤ s.safe
  ·have e : k = 0 := by rw [← hkk]; unfold keptN; omega
   have E := Lib.hid e
   clear e hkk
   go_region
   all_goals (try go_wp2_with fail)
   all_goals go_meet
   all_goals exact ⟨by first | (rw [E.out]; done) | (rw [E.out]; rfl) | (exact int_eq (by have := E.out; omega)), (Below.refl _ w).drew⟩
  ·by_cases h2 : (s.b.length : Int) - s.safe < left
   ·have h3 : s.safe < s.b.length := by omega
    have e : ((k : Nat) : Int) = (s.b.length : Int) - s.safe := by rw [← hkk]; unfold keptN; omega
    have E := Lib.hid e
    clear e hkk
    go_region
    all_goals (try go_wp2_with fail)
    all_goals go_meet
    all_goals exact ⟨by first | (rw [E.out]; done) | (rw [E.out]; rfl) | (exact int_eq (by have := E.out; omega)), (Below.refl _ w).drew⟩
   ·have h3 : s.safe < s.b.length := by omega
    have e : ((k : Nat) : Int) = left := by rw [← hkk]; unfold keptN; omega
    have E := Lib.hid e
    clear e hkk
    go_region
    all_goals (try go_wp2_with fail)
    all_goals go_meet
    all_goals exact ⟨by first | (rw [E.out]; done) | (rw [E.out]; rfl) | (exact int_eq (by have := E.out; omega)), (Below.refl _ w).drew⟩
 case rest =>
  obtain ⟨hc1, hbc⟩ := hcut
  subst hc1
  have HC := Lib.hid (H.out.fr (Fr.of_below hbc : Fr S0 _ _) (fun _ _ e => e))
  have l1 := HC.out.d.cell (i := 1) (v := .slice A s.b.length c) rfl
  have HKK := Lib.hid hkk
  clear hkk l0 l2
  have hsub : BsIn wc (.slice A (s.safe + k) c) (s.b.take (s.safe + k)) := by
   have hl2 : (s.b.take (s.safe + k)).length = s.safe + k := by simp; omega
   obtain ⟨A2, c2, e2, _, _, h3⟩ := HC.out.row.bsIn
   cases e2
   exact ⟨A, c, by rw [hl2], by omega, hcm, fun h0 => by
    rw [hl2] at h0
    obtain ⟨b, off, k1, k2, k3⟩ := h3 (by omega)
    exact ⟨b, off, k1, k2, fun i z hz => k3 i z (by rw [List.getElem?_take] at hz; split at hz; exact hz; cases hz)⟩⟩
  have HS := Lib.hid hsub
  have HBC := Lib.hid hbc
  have hend : (allF (s.b.take (s.safe + k))).2 ≤ s.safe + k := by
   have := allF_le (s.safe + k) (s.b.take (s.safe + k)) (by simp; omega)
   simp at this
   omega
  have HE := Lib.hid (show tornD s left = { s with b := s.b.take (allF (s.b.take (s.safe + k))).2, safe := (allF (s.b.take (s.safe + k))).2 } by unfold tornD; rw [HKK.out])
  have HALL := Lib.hid (rall_any _ _ _ HS.out (by simp; omega))
  generalize (allF (s.b.take (s.safe + k))).2 = E at *
  have hcE : E ≤ s.b.length := by omega
  have hck : s.safe + k ≤ c := by omega
  have hcE2 : E ≤ c := by omega
  clear hsub hbc
  go_wp2_with (go_at_call 138; refine HALL.out.mono ?_; rintro e w5 ⟨vo, xs, rfl, _, hr, hb⟩; obtain ⟨A5, c5, rfl⟩ := row_len hr.row; have H5 := Lib.hid (HC.out.below hb); have B5 := Lib.hid (bchain HBC.out hb); have m1 := H5.out.d.cell (i := 1) (v := .slice A s.b.length c) rfl; have m2 := H5.out.d.cell (i := 2) rfl; have g1 := H5.out.d.frozen 1; have g2 := H5.out.d.frozen 2; clear hr hb)
  go_end0
  rw [HE.out]
  exact ⟨rfl, _, rtear_leaf H.out B5.out hcE⟩
end
end Go.Proofs.YtlfikhblmbidmaaGreatDoor