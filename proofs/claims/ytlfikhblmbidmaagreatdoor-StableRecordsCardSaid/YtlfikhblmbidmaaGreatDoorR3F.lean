/- The reference's Parse (skaldref17). (Printed by gen/r3f.py.) -/
import Derived.Test.YtlfikhblmbidmaaGreatDoorR3E
import Derived.Deep.DeepCutAuto
import Derived.Deep.CutBlock
set_option linter.unusedVariables false
set_option linter.unusedSimpArgs false
namespace Go.Proofs.YtlfikhblmbidmaaGreatDoor
open Go.RowKit Go.Maps

/-- Where the reference's Parse stands: the reader p, the ballot qb, the result's ballot q. -/
structure PrS (w X : World) (q qb p : Nat) (v : Value) (s : Rd) (R N : Int) : Prop where
  rd : RrAt X p v s
  kq : Blk X q 24 #[.int .i64 0, .int .i64 0]
  kb : Blk X qb 24 #[.int .i64 R, .int .i64 N]
  bel : Below w.heap.size w X
  lp : w.heap.size ≤ p
  lq : w.heap.size ≤ q
  lb : w.heap.size ≤ qb
  n1 : q ≠ p
  n2 : qb ≠ p
  n3 : q ≠ qb
theorem PrS.step {w X Y : World} {q qb p : Nat} {v v' : Value} {s s' : Rd} {R N : Int} (h : PrS w X q qb p v s R N) (k : RrStep X p Y v' s') : PrS w Y q qb p v' s' R N :=
  ⟨k.at_, h.kq.fr k.fr h.n1, h.kb.fr k.fr h.n2, h.bel.trans (k.fr.below h.bel.size (fun i e => by have e : i = p := e; have := h.lp; omega)), h.lp, h.lq, h.lb, h.n1, h.n2, h.n3⟩
theorem PrS.below {w X Y : World} {q qb p : Nat} {v : Value} {s : Rd} {R N : Int} (h : PrS w X q qb p v s R N) (k : Below X.heap.size X Y) : PrS w Y q qb p v s R N := h.step (RrStep.below h.rd k)
theorem PrS.bal {w X : World} {q qb p : Nat} {v : Value} {s : Rd} {R N : Int} (h : PrS w X q qb p v s R N) (R2 N2 : Int) : PrS w ((X.setCell ⟨qb, 0, none⟩ (.int .i64 R2)).setCell ⟨qb, 1, none⟩ (.int .i64 N2)) q qb p v s R2 N2 := by
  have k1 := h.kb.set 0 (.int .i64 R2)
  have r1 := h.rd.setX (i := 0) (y := .int .i64 R2) h.kb (no_bytes2 R N) h.n2
  have r2 := r1.setX (i := 1) (y := .int .i64 N2) k1 (no_bytes2 R2 N) h.n2
  have hf : Fr (S1 qb) X ((X.setCell ⟨qb, 0, none⟩ (.int .i64 R2)).setCell ⟨qb, 1, none⟩ (.int .i64 N2)) := ((Fr.refl (S1 qb) X).setCell (.inl (show S1 qb qb from rfl)) _).setCell (.inl (show S1 qb qb from rfl)) _
  exact ⟨r2, h.kq.fr hf h.n3, k1.set 1 _, h.bel.trans (hf.below h.bel.size (fun i e => by have e : i = qb := e; have := h.lb; omega)), h.lp, h.lq, h.lb, h.n1, h.n2, h.n3⟩
def RPost (w : World) (b : List UInt8) (e : Ending) (w' : World) : Prop :=
  (match parseP b with
    | none => e = .returned (.tuple #[.int .i64 0, balV 0 0, .int .i64 0, .string ⟨#[]⟩, .int .i64 10])
    | some x => e = .returned (.tuple #[.int .i64 (x.k : Int), balV x.ro x.no, .int .i64 (x.sl : Int), .string (sB x.v), .int .i64 0])) ∧ Below w.heap.size w w'
theorem cell_setB {W : World} {q p i j : Nat} {v z : Value} (h : W.cell? ⟨p, i, none⟩ = some z) (hne : q ≠ p) : (W.setCell ⟨q, j, none⟩ v).cell? ⟨p, i, none⟩ = some z :=
  (World.cell?_setCell_other _ _ _ _ (by simp [Ne.symm hne])).trans h
theorem RPost.no {w w' : World} {b : List UInt8} (h : parseP b = none) (hb : Below w.heap.size w w') : RPost w b (.returned (.tuple #[.int .i64 0, balV 0 0, .int .i64 0, .string ⟨#[]⟩, .int .i64 10])) w' := by
  unfold RPost
  rw [h]
  exact ⟨rfl, hb⟩
theorem RPost.yes {w w' : World} {b : List UInt8} {x : Rec} (h : parseP b = some x) (hb : Below w.heap.size w w') : RPost w b (.returned (.tuple #[.int .i64 (x.k : Int), balV x.ro x.no, .int .i64 (x.sl : Int), .string (sB x.v), .int .i64 0])) w' := by
  unfold RPost
  rw [h]
  exact ⟨rfl, hb⟩
set_option maxRecDepth 100000 in
set_option maxHeartbeats 2000000 in
theorem rparse0 (u : Value) (b : List UInt8) (w : World) (hu : BsIn w u b) (hl : b.length ≤ 100000000) (hK : refK b = 0) : Calls Tryz.prog 25 #[u] w (RPost w b) := by
  obtain ⟨A0, c0, rfl, hle0, hm0⟩ := hu.shape
  have hb1 := box_below w (.cells #[.int .i64 0, .int .i64 0] 24)
  have HU1 := Lib.hid (hu.below hb1)
  have HB1 := Lib.hid hb1
  have KQ1 := Lib.hid (Blk.new w 24 #[.int .i64 0, .int .i64 0])
  obtain ⟨q, hq⟩ : ∃ q, w.heap.size = q := ⟨_, rfl⟩
  have hz1 : (w.alloc (.cells #[.int .i64 0, .int .i64 0] 24)).heap.size = q + 1 := by rw [World.size_alloc, hq]
  have hlb : ((some b : Rd).getD []).length ≤ 100000000 := hl
  have HS := Lib.hid (fun (p : Nat) (v : Value) (w : World) (h : RrAt w p v (some b)) => rsmallc p 3 3 rfl v (some b) w h hlb (by decide))
  have hl1 := rdM_len (most := 3) _ hlb
  have hT : refT b = refVal (refK b) (refQ b).2.2 := rfl
  have hQ : refQ b = refBal (refK b) (rdM 3 (some b)).2 := rfl
  rw [hK] at hT hQ
  obtain ⟨⟨k, s1⟩, hk⟩ : ∃ x, rdM 3 (some b) = x := ⟨_, rfl⟩
  have hkK : k = 0 := by
    have e : refK b = k := by unfold refK; rw [hk]
    omega
  subst hkK
  rw [hk] at HS hl1 hQ
  have hl1 : (s1.getD []).length ≤ 100000000 := hl1
  have hQ2 : refQ b = (0, 0, s1) := hQ
  have hT2 : refT b = (0, [], s1) := by rw [hT, hQ2]; rfl
  have HKQT : Hid (refK b = 0 ∧ refQ b = (0, 0, s1) ∧ refT b = (0, [], s1)) := ⟨hK, hQ2, hT2⟩
  clear hT hQ hQ2 hT2 hK hk hb1 hu
  go_enter Tryz.func25, Tryz.ntmps25
  go_upto_region 4 with (first
    | (go_at_call 90; refine (rrread _ b _ HU1.out hl).mono ?_; rintro e w2 ⟨p, v2, rfl, hr, hlo, hb⟩; have HR2 := Lib.hid hr; have HB2 := Lib.hid (bchain HB1.out hb); have KQ2 := Lib.hid (KQ1.out.of_block (hb.block _ (by omega))); have hlo2 : q + 1 ≤ p := (by rw [hz1] at hlo; exact hlo); clear hr hb hlo)
    | (go_at_call 91; (with_reducible refine (HS.out _ _ _ HR2.out).mono ?_); rintro e w3 ⟨v3, rfl, hs⟩; have HR3 := Lib.hid hs; clear hs))
  have hp3 := HR3.out.at_.blk.lt
  have P4 : Hid (PrS w (w3.alloc (.cells #[.int .i64 0, .int .i64 0] 24)) w.heap.size w3.heap.size p v3 s1 0 0) := by
    have hbel := HB2.out.trans (HR3.out.fr.below HB2.out.size (fun i e => by have e : i = p := e; omega))
    have hbx := box_below w3 (.cells #[.int .i64 0, .int .i64 0] 24)
    have kq3 := KQ2.out.fr HR3.out.fr (fun e => by have e : w.heap.size = p := e; omega)
    exact ⟨HR3.out.at_.below hbx, kq3.of_block (hbx.block _ kq3.lt), Blk.new w3 _ _, hbel.trans (hbx.mono hbel.size), by omega, Nat.le_refl _, hbel.size, by omega, by omega, by have := kq3.lt; omega⟩
  rw [hq] at P4
  have hqb : q ≠ w3.heap.size := P4.out.n3
  clear HR2 HR3 HB2 KQ1 KQ2
  obtain ⟨qb, hqbe⟩ : ∃ qb, w3.heap.size = qb := ⟨_, rfl⟩
  rw [hqbe] at P4 ⊢
  rw [hqbe] at hqb
  generalize (w3.alloc (.cells #[.int .i64 0, .int .i64 0] 24)) = w4 at *
  have b40 := P4.out.kb.cell (i := 0) (v := .int .i64 0) rfl
  have b41 := P4.out.kb.cell (i := 1) (v := .int .i64 0) rfl
  have fb0 := P4.out.kb.frozen 0
  have fb1 := P4.out.kb.frozen 1
  go_upto_region 10 with fail
  have kz0 := P4.out.kq.cell (i := 0) (v := .int .i64 0) rfl
  have kz1 := P4.out.kq.cell (i := 1) (v := .int .i64 0) rfl
  have gz0 := P4.out.kq.frozen 0
  have gz1 := P4.out.kq.frozen 1
  by_cases hlong : 65536 < b.length
  case pos =>
    have dl : decide ((b.length : Int) > 65536) = true := decide_eq_true (by omega)
    go_wp2_with fail
    have KF := (P4.out.kq.set 0 (.int .i64 0)).set 1 (.int .i64 0)
    have y0 := KF.cell (i := 0) (v := .int .i64 0) rfl
    have y1 := KF.cell (i := 1) (v := .int .i64 0) rfl
    refine bodyPost_ret (v := .tuple #[.int .i64 0, balV 0 0, .int .i64 0, .string ⟨#[]⟩, .int .i64 10]) (by simp [results, Tryz.results25, go_sem, y0, y1]) rfl ?_
    refine RPost.no (parse_bad (by rw [HKQT.out.1, HKQT.out.2.1, HKQT.out.2.2]; exact .inl hlong)) (P4.out.bel.trans (Fr.below (S := S1 q) (((Fr.refl (S1 q) _).setCell (.inl (show S1 q q from rfl)) _).setCell (.inl (show S1 q q from rfl)) _) P4.out.bel.size (fun i e => by have e : i = q := e; have := P4.out.lq; omega)))
  case neg =>
  have dl : decide ((b.length : Int) > 65536) = false := decide_eq_false (by omega)
  go_wp2_with fail
  have KF := (P4.out.kq.set 0 (.int .i64 0)).set 1 (.int .i64 0)
  have y0 := KF.cell (i := 0) (v := .int .i64 0) rfl
  have y1 := KF.cell (i := 1) (v := .int .i64 0) rfl
  refine bodyPost_ret (v := .tuple #[.int .i64 0, balV 0 0, .int .i64 0, .string ⟨#[]⟩, .int .i64 10]) (by simp [results, Tryz.results25, go_sem, y0, y1]) rfl ?_
  refine RPost.no (parse_bad (by rw [HKQT.out.1, HKQT.out.2.1, HKQT.out.2.2]; exact .inr (.inl rfl))) (P4.out.bel.trans (Fr.below (S := S1 q) (((Fr.refl (S1 q) _).setCell (.inl (show S1 q q from rfl)) _).setCell (.inl (show S1 q q from rfl)) _) P4.out.bel.size (fun i e => by have e : i = q := e; have := P4.out.lq; omega)))
set_option maxRecDepth 100000 in
set_option maxHeartbeats 2000000 in
theorem rparse1 (u : Value) (b : List UInt8) (w : World) (hu : BsIn w u b) (hl : b.length ≤ 100000000) (hK : refK b = 1) : Calls Tryz.prog 25 #[u] w (RPost w b) := by
  obtain ⟨A0, c0, rfl, hle0, hm0⟩ := hu.shape
  have hb1 := box_below w (.cells #[.int .i64 0, .int .i64 0] 24)
  have HU1 := Lib.hid (hu.below hb1)
  have HB1 := Lib.hid hb1
  have KQ1 := Lib.hid (Blk.new w 24 #[.int .i64 0, .int .i64 0])
  obtain ⟨q, hq⟩ : ∃ q, w.heap.size = q := ⟨_, rfl⟩
  have hz1 : (w.alloc (.cells #[.int .i64 0, .int .i64 0] 24)).heap.size = q + 1 := by rw [World.size_alloc, hq]
  have hlb : ((some b : Rd).getD []).length ≤ 100000000 := hl
  have HS := Lib.hid (fun (p : Nat) (v : Value) (w : World) (h : RrAt w p v (some b)) => rsmallc p 3 3 rfl v (some b) w h hlb (by decide))
  have hl1 := rdM_len (most := 3) _ hlb
  have hT : refT b = refVal (refK b) (refQ b).2.2 := rfl
  have hQ : refQ b = refBal (refK b) (rdM 3 (some b)).2 := rfl
  rw [hK] at hT hQ
  obtain ⟨⟨k, s1⟩, hk⟩ : ∃ x, rdM 3 (some b) = x := ⟨_, rfl⟩
  have hkK : k = 1 := by
    have e : refK b = k := by unfold refK; rw [hk]
    omega
  subst hkK
  rw [hk] at HS hl1 hQ
  have hl1 : (s1.getD []).length ≤ 100000000 := hl1
  obtain ⟨⟨R, a2⟩, hR⟩ : ∃ x, rdM 1073741824 s1 = x := ⟨_, rfl⟩
  obtain ⟨⟨N, s2⟩, hN⟩ : ∃ x, rdM 6 a2 = x := ⟨_, rfl⟩
  have hQ2 : refQ b = (R, N, s2) := by rw [hQ]; show ((rdM 1073741824 s1).1, (rdM 6 (rdM 1073741824 s1).2).1, (rdM 6 (rdM 1073741824 s1).2).2) = _; rw [hR]; show (R, (rdM 6 a2).1, (rdM 6 a2).2) = _; rw [hN]
  have hl2 : (s2.getD []).length ≤ 100000000 := by
    have h1 := rdM_len (most := 1073741824) _ hl1
    rw [hR] at h1
    have h2 := rdM_len (most := 6) _ h1
    show ((Prod.mk N s2).2.getD []).length ≤ _
    rw [← hN]
    exact h2
  have HBL := Lib.hid (fun (p : Nat) (v : Value) (w : World) (h : RrAt w p v s1) => rballot_any p v s1 w h hl1)
  rw [hR] at HBL
  have HBL : Hid (∀ (p : Nat) (v : Value) (w : World) (h : RrAt w p v s1), Calls Tryz.prog 92 #[.pointer (some ⟨p, 0, none⟩)] w fun e w' => ∃ v', e = .returned (balV (R : Nat) (N : Nat)) ∧ RrStep w p w' v' s2) := fun p v w h => by
    have := HBL.out p v w h
    rwa [show (rdM 6 ((R, a2) : Nat × Rd).2) = (N, s2) from hN] at this
  clear hR hN
  have hT2 : refT b = (0, [], s2) := by rw [hT, hQ2]; rfl
  have HKQT : Hid (refK b = 1 ∧ refQ b = (R, N, s2) ∧ refT b = (0, [], s2)) := ⟨hK, hQ2, hT2⟩
  clear hT hQ hQ2 hT2 hK hk hb1 hu
  go_enter Tryz.func25, Tryz.ntmps25
  go_upto_region 4 with (first
    | (go_at_call 90; refine (rrread _ b _ HU1.out hl).mono ?_; rintro e w2 ⟨p, v2, rfl, hr, hlo, hb⟩; have HR2 := Lib.hid hr; have HB2 := Lib.hid (bchain HB1.out hb); have KQ2 := Lib.hid (KQ1.out.of_block (hb.block _ (by omega))); have hlo2 : q + 1 ≤ p := (by rw [hz1] at hlo; exact hlo); clear hr hb hlo)
    | (go_at_call 91; (with_reducible refine (HS.out _ _ _ HR2.out).mono ?_); rintro e w3 ⟨v3, rfl, hs⟩; have HR3 := Lib.hid hs; clear hs))
  have hp3 := HR3.out.at_.blk.lt
  have P4 : Hid (PrS w (w3.alloc (.cells #[.int .i64 0, .int .i64 0] 24)) w.heap.size w3.heap.size p v3 s1 0 0) := by
    have hbel := HB2.out.trans (HR3.out.fr.below HB2.out.size (fun i e => by have e : i = p := e; omega))
    have hbx := box_below w3 (.cells #[.int .i64 0, .int .i64 0] 24)
    have kq3 := KQ2.out.fr HR3.out.fr (fun e => by have e : w.heap.size = p := e; omega)
    exact ⟨HR3.out.at_.below hbx, kq3.of_block (hbx.block _ kq3.lt), Blk.new w3 _ _, hbel.trans (hbx.mono hbel.size), by omega, Nat.le_refl _, hbel.size, by omega, by omega, by have := kq3.lt; omega⟩
  rw [hq] at P4
  have hqb : q ≠ w3.heap.size := P4.out.n3
  clear HR2 HR3 HB2 KQ1 KQ2
  obtain ⟨qb, hqbe⟩ : ∃ qb, w3.heap.size = qb := ⟨_, rfl⟩
  rw [hqbe] at P4 ⊢
  rw [hqbe] at hqb
  generalize (w3.alloc (.cells #[.int .i64 0, .int .i64 0] 24)) = w4 at *
  have b40 := P4.out.kb.cell (i := 0) (v := .int .i64 0) rfl
  have b41 := P4.out.kb.cell (i := 1) (v := .int .i64 0) rfl
  have fb0 := P4.out.kb.frozen 0
  have fb1 := P4.out.kb.frozen 1
  go_upto_region 10 with (first
    | (go_at_call 92; (with_reducible refine (HBL.out _ _ _ P4.out.rd).mono ?_); rintro e w5 ⟨v5, rfl, hs⟩; have P5 := Lib.hid ((P4.out.step hs).bal (R : Int) (N : Int)); have b50 := (P4.out.step hs).kb.cell (i := 0) (v := .int .i64 0) rfl; have b51 := (P4.out.step hs).kb.cell (i := 1) (v := .int .i64 0) rfl; have fc0 := (P4.out.step hs).kb.frozen 0; have fc1 := (P4.out.step hs).kb.frozen 1; have d50 := P5.out.kb.cell (i := 0) (v := .int .i64 (R : Int)) rfl; have d51 := P5.out.kb.cell (i := 1) (v := .int .i64 (N : Int)) rfl; clear hs))
  have kz0 := P5.out.kq.cell (i := 0) (v := .int .i64 0) rfl
  have kz1 := P5.out.kq.cell (i := 1) (v := .int .i64 0) rfl
  have gz0 := P5.out.kq.frozen 0
  have gz1 := P5.out.kq.frozen 1
  by_cases hlong : 65536 < b.length
  case pos =>
    have dl : decide ((b.length : Int) > 65536) = true := decide_eq_true (by omega)
    go_wp2_with fail
    have KF := (P5.out.kq.set 0 (.int .i64 0)).set 1 (.int .i64 0)
    have y0 := KF.cell (i := 0) (v := .int .i64 0) rfl
    have y1 := KF.cell (i := 1) (v := .int .i64 0) rfl
    refine bodyPost_ret (v := .tuple #[.int .i64 0, balV 0 0, .int .i64 0, .string ⟨#[]⟩, .int .i64 10]) (by simp [results, Tryz.results25, go_sem, y0, y1]) rfl ?_
    refine RPost.no (parse_bad (by rw [HKQT.out.1, HKQT.out.2.1, HKQT.out.2.2]; exact .inl hlong)) (P5.out.bel.trans (Fr.below (S := S1 q) (((Fr.refl (S1 q) _).setCell (.inl (show S1 q q from rfl)) _).setCell (.inl (show S1 q q from rfl)) _) P5.out.bel.size (fun i e => by have e : i = q := e; have := P5.out.lq; omega)))
  case neg =>
  have dl : decide ((b.length : Int) > 65536) = false := decide_eq_false (by omega)
  have HG := Lib.hid (fun w => rgood_any (R : Int) (N : Int) w)
  cases hg : okB (R : Int) (N : Int)
  case false =>
    rw [hg] at HG
    go_wp2_with (go_at_call 84; refine (HG.out _).mono ?_; rintro e w8 ⟨rfl, hb⟩; have P8 := Lib.hid (P5.out.below hb); have kw0 := P8.out.kq.cell (i := 0) (v := .int .i64 0) rfl; have kw1 := P8.out.kq.cell (i := 1) (v := .int .i64 0) rfl; have gw0 := P8.out.kq.frozen 0; have gw1 := P8.out.kq.frozen 1; clear hb)
    have KF := (P8.out.kq.set 0 (.int .i64 0)).set 1 (.int .i64 0)
    have y0 := KF.cell (i := 0) (v := .int .i64 0) rfl
    have y1 := KF.cell (i := 1) (v := .int .i64 0) rfl
    refine bodyPost_ret (v := .tuple #[.int .i64 0, balV 0 0, .int .i64 0, .string ⟨#[]⟩, .int .i64 10]) (by simp [results, Tryz.results25, go_sem, y0, y1]) rfl ?_
    refine RPost.no (parse_bad (by rw [HKQT.out.1, HKQT.out.2.1, HKQT.out.2.2]; exact .inr (.inr (.inl ⟨by decide, hg⟩)))) (P8.out.bel.trans (Fr.below (S := S1 q) (((Fr.refl (S1 q) _).setCell (.inl (show S1 q q from rfl)) _).setCell (.inl (show S1 q q from rfl)) _) P8.out.bel.size (fun i e => by have e : i = q := e; have := P8.out.lq; omega)))
  case true =>
  rw [hg] at HG
  by_cases he : endE s2 = 0
  case neg =>
    have he' : (endE s2 != 0) = true := by simpa using he
    go_wp2_with (first
    | (go_at_call 84; refine (HG.out _).mono ?_; rintro e w8 ⟨rfl, hb⟩; have P8 := Lib.hid (P5.out.below hb); have kw0 := P8.out.kq.cell (i := 0) (v := .int .i64 0) rfl; have kw1 := P8.out.kq.cell (i := 1) (v := .int .i64 0) rfl; have gw0 := P8.out.kq.frozen 0; have gw1 := P8.out.kq.frozen 1; have d80 := P8.out.kb.cell (i := 0) (v := .int .i64 (R : Int)) rfl; have d81 := P8.out.kb.cell (i := 1) (v := .int .i64 (N : Int)) rfl; clear hb)
    | (go_at_call 94; refine (rrend p _ s2 _ P8.out.rd).mono ?_; rintro e w9 ⟨rfl, rfl⟩))
    have KF := (P8.out.kq.set 0 (.int .i64 0)).set 1 (.int .i64 0)
    have y0 := KF.cell (i := 0) (v := .int .i64 0) rfl
    have y1 := KF.cell (i := 1) (v := .int .i64 0) rfl
    refine bodyPost_ret (v := .tuple #[.int .i64 0, balV 0 0, .int .i64 0, .string ⟨#[]⟩, .int .i64 10]) (by simp [results, Tryz.results25, go_sem, y0, y1]) rfl ?_
    refine RPost.no (parse_bad (by rw [HKQT.out.1, HKQT.out.2.1, HKQT.out.2.2]; exact .inr (.inr (.inr he)))) (P8.out.bel.trans (Fr.below (S := S1 q) (((Fr.refl (S1 q) _).setCell (.inl (show S1 q q from rfl)) _).setCell (.inl (show S1 q q from rfl)) _) P8.out.bel.size (fun i e => by have e : i = q := e; have := P8.out.lq; omega)))
  case pos =>
  have he' : (endE s2 != 0) = false := by simpa using he
  have HG2 := Lib.hid (parse_good (b := b) (by
    rw [HKQT.out.1, HKQT.out.2.1, HKQT.out.2.2]
    rintro (h | h | h | h)
    · exact hlong h
    · exact absurd h (by decide)
    · rw [show okB ((R : Nat) : Int) ((N : Nat) : Int) = true from hg] at h; exact absurd h.2 (by simp)
    · exact h he))
  rw [HKQT.out.1, HKQT.out.2.1, HKQT.out.2.2] at HG2
  go_upto_region 12 with (first
    | (go_at_call 84; refine (HG.out _).mono ?_; rintro e w8 ⟨rfl, hb⟩; have P8 := Lib.hid (P5.out.below hb); have kw0 := P8.out.kq.cell (i := 0) (v := .int .i64 0) rfl; have kw1 := P8.out.kq.cell (i := 1) (v := .int .i64 0) rfl; have gw0 := P8.out.kq.frozen 0; have gw1 := P8.out.kq.frozen 1; have d80 := P8.out.kb.cell (i := 0) (v := .int .i64 (R : Int)) rfl; have d81 := P8.out.kb.cell (i := 1) (v := .int .i64 (N : Int)) rfl; clear hb)
    | (go_at_call 94; refine (rrend p _ s2 _ P8.out.rd).mono ?_; rintro e w9 ⟨rfl, rfl⟩))
  have u0 := P8.out.kb.cell (i := 0) (v := .int .i64 (R : Int)) rfl
  have u1 := P8.out.kb.cell (i := 1) (v := .int .i64 (N : Int)) rfl
  refine wp_region_held_drew (S := (fun W => W.cell? ⟨qb, 0, none⟩ = some (.int .i64 (R : Int)) ∧ W.cell? ⟨qb, 1, none⟩ = some (.int .i64 (N : Int)))) (by kernel_rfl) ?_ (fun hHeld => ?_)
  · exact ⟨u0, u1⟩
  try dsimp only at hHeld
  refine held_yes (i := 0) (some 57) (v := ?_) rfl rfl (by kernel_rfl) (by kernel_rfl) (by kernel_rfl) (fun _ _ _ h => h) (by rfl) ?_ hHeld ?_
  rotate_left
  · (intro w hSw; (try dsimp only at hSw); go_simp; all_goals with_reducible rfl)
  try simp only [Act.put, List.setIfInBounds_toArray, List.set_cons_zero, List.set_cons_succ]
  refine held_yes (i := 1) (some 58) (v := ?_) rfl rfl (by kernel_rfl) (by kernel_rfl) (by kernel_rfl) (fun _ _ _ h => h) (by rfl) ?_ hHeld ?_
  rotate_left
  · (intro w hSw; (try dsimp only at hSw); go_simp; all_goals with_reducible rfl)
  try simp only [Act.put, List.setIfInBounds_toArray, List.set_cons_zero, List.set_cons_succ]
  refine held_yes (i := 2) (some 59) (v := ?_) rfl rfl (by kernel_rfl) (by kernel_rfl) (by kernel_rfl) (fun _ _ _ h => h) (by rfl) ?_ hHeld ?_
  rotate_left
  · (intro w hSw; (try dsimp only at hSw); go_simp; all_goals with_reducible rfl)
  try simp only [Act.put, List.setIfInBounds_toArray, List.set_cons_zero, List.set_cons_succ]
  refine held_yes (i := 3) (some 60) (v := ?_) rfl rfl (by kernel_rfl) (by kernel_rfl) (by kernel_rfl) (fun _ _ _ h => h) (by rfl) ?_ hHeld ?_
  rotate_left
  · (intro w hSw; (try dsimp only at hSw); go_simp; all_goals with_reducible rfl)
  try simp only [Act.put, List.setIfInBounds_toArray, List.set_cons_zero, List.set_cons_succ]
  refine held_yes (i := 4) (some 2) (v := ?_) rfl rfl (by kernel_rfl) (by kernel_rfl) (by kernel_rfl) (fun _ _ _ h => h) (by rfl) ?_ hHeld ?_
  rotate_left
  · (intro w hSw; (try dsimp only at hSw); go_simp; all_goals with_reducible rfl)
  try simp only [Act.put, List.setIfInBounds_toArray, List.set_cons_zero, List.set_cons_succ]
  refine wpAnyH_ready (rs := [5]) (by kernel_rfl) (by simp) ?_
  refine (AllReadyH.cons rfl (fun K' hK' => ?_) AllReadyH.nil)
  go_simp
  refine hK'.out _ _ ?_ (fun hHeld => ?_)
  · first | exact hHeld | exact ⟨cell_setB (cell_setB hHeld.1 hqb) hqb, cell_setB (cell_setB hHeld.2 hqb) hqb⟩
  clear hK' K'
  try dsimp only at hHeld
  try simp only [Act.put, List.setIfInBounds_toArray, List.set_cons_zero, List.set_cons_succ]
  refine held_yes (i := 6) (some 4) (v := ?_) rfl rfl (by kernel_rfl) (by kernel_rfl) (by kernel_rfl) (fun _ _ _ h => h) (by rfl) ?_ hHeld ?_
  rotate_left
  · (intro w hSw; (try dsimp only at hSw); go_simp; all_goals with_reducible rfl)
  try simp only [Act.put, List.setIfInBounds_toArray, List.set_cons_zero, List.set_cons_succ]
  refine held_yes (i := 7) (some 5) (v := ?_) rfl rfl (by kernel_rfl) (by kernel_rfl) (by kernel_rfl) (fun _ _ _ h => h) (by rfl) ?_ hHeld ?_
  rotate_left
  · (intro w hSw; (try dsimp only at hSw); go_simp; all_goals with_reducible rfl)
  try simp only [Act.put, List.setIfInBounds_toArray, List.set_cons_zero, List.set_cons_succ]
  refine held_yes (i := 8) (some 6) (v := ?_) rfl rfl (by kernel_rfl) (by kernel_rfl) (by kernel_rfl) (fun _ _ _ h => h) (by rfl) ?_ hHeld ?_
  rotate_left
  · (intro w hSw; (try dsimp only at hSw); go_simp; all_goals with_reducible rfl)
  try simp only [Act.put, List.setIfInBounds_toArray, List.set_cons_zero, List.set_cons_succ]
  refine wpAnyH_done (by kernel_rfl) ?_ _
  go_wp2_with fail
  have KF := (P8.out.kq.set 0 (.int .i64 (R : Int))).set 1 (.int .i64 (N : Int))
  have y0 := KF.cell (i := 0) (v := .int .i64 (R : Int)) rfl
  have y1 := KF.cell (i := 1) (v := .int .i64 (N : Int)) rfl
  refine bodyPost_ret (v := .tuple #[.int .i64 1, balV (R : Int) (N : Int), .int .i64 0, .string ⟨#[]⟩, .int .i64 0]) (by simp [results, Tryz.results25, go_sem, y0, y1]) rfl ?_
  exact RPost.yes HG2.out (P8.out.bel.trans (Fr.below (S := S1 q) ((((Fr.refl (S1 q) _).setCell (.inl (show S1 q q from rfl)) _).setCell (.inl (show S1 q q from rfl)) _).drew) P8.out.bel.size (fun i e => by have e : i = q := e; have := P8.out.lq; omega)))
set_option maxRecDepth 100000 in
set_option maxHeartbeats 2000000 in
theorem rparse2 (u : Value) (b : List UInt8) (w : World) (hu : BsIn w u b) (hl : b.length ≤ 100000000) (hK : refK b = 2) : Calls Tryz.prog 25 #[u] w (RPost w b) := by
  obtain ⟨A0, c0, rfl, hle0, hm0⟩ := hu.shape
  have hb1 := box_below w (.cells #[.int .i64 0, .int .i64 0] 24)
  have HU1 := Lib.hid (hu.below hb1)
  have HB1 := Lib.hid hb1
  have KQ1 := Lib.hid (Blk.new w 24 #[.int .i64 0, .int .i64 0])
  obtain ⟨q, hq⟩ : ∃ q, w.heap.size = q := ⟨_, rfl⟩
  have hz1 : (w.alloc (.cells #[.int .i64 0, .int .i64 0] 24)).heap.size = q + 1 := by rw [World.size_alloc, hq]
  have hlb : ((some b : Rd).getD []).length ≤ 100000000 := hl
  have HS := Lib.hid (fun (p : Nat) (v : Value) (w : World) (h : RrAt w p v (some b)) => rsmallc p 3 3 rfl v (some b) w h hlb (by decide))
  have hl1 := rdM_len (most := 3) _ hlb
  have hT : refT b = refVal (refK b) (refQ b).2.2 := rfl
  have hQ : refQ b = refBal (refK b) (rdM 3 (some b)).2 := rfl
  rw [hK] at hT hQ
  obtain ⟨⟨k, s1⟩, hk⟩ : ∃ x, rdM 3 (some b) = x := ⟨_, rfl⟩
  have hkK : k = 2 := by
    have e : refK b = k := by unfold refK; rw [hk]
    omega
  subst hkK
  rw [hk] at HS hl1 hQ
  have hl1 : (s1.getD []).length ≤ 100000000 := hl1
  obtain ⟨⟨R, a2⟩, hR⟩ : ∃ x, rdM 1073741824 s1 = x := ⟨_, rfl⟩
  obtain ⟨⟨N, s2⟩, hN⟩ : ∃ x, rdM 6 a2 = x := ⟨_, rfl⟩
  have hQ2 : refQ b = (R, N, s2) := by rw [hQ]; show ((rdM 1073741824 s1).1, (rdM 6 (rdM 1073741824 s1).2).1, (rdM 6 (rdM 1073741824 s1).2).2) = _; rw [hR]; show (R, (rdM 6 a2).1, (rdM 6 a2).2) = _; rw [hN]
  have hl2 : (s2.getD []).length ≤ 100000000 := by
    have h1 := rdM_len (most := 1073741824) _ hl1
    rw [hR] at h1
    have h2 := rdM_len (most := 6) _ h1
    show ((Prod.mk N s2).2.getD []).length ≤ _
    rw [← hN]
    exact h2
  have HBL := Lib.hid (fun (p : Nat) (v : Value) (w : World) (h : RrAt w p v s1) => rballot_any p v s1 w h hl1)
  rw [hR] at HBL
  have HBL : Hid (∀ (p : Nat) (v : Value) (w : World) (h : RrAt w p v s1), Calls Tryz.prog 92 #[.pointer (some ⟨p, 0, none⟩)] w fun e w' => ∃ v', e = .returned (balV (R : Nat) (N : Nat)) ∧ RrStep w p w' v' s2) := fun p v w h => by
    have := HBL.out p v w h
    rwa [show (rdM 6 ((R, a2) : Nat × Rd).2) = (N, s2) from hN] at this
  clear hR hN
  obtain ⟨⟨SL, a3⟩, hSL⟩ : ∃ x, rdM 4095 s2 = x := ⟨_, rfl⟩
  obtain ⟨⟨TX, s3⟩, hTX⟩ : ∃ x, rdT a3 = x := ⟨_, rfl⟩
  have hT2 : refT b = (SL, TX, s3) := by rw [hT, hQ2]; show ((rdM 4095 s2).1, (rdT (rdM 4095 s2).2).1, (rdT (rdM 4095 s2).2).2) = _; rw [hSL]; show (SL, (rdT a3).1, (rdT a3).2) = _; rw [hTX]
  have hl3 := rdM_len (most := 4095) _ hl2
  have HSM := Lib.hid (fun (p : Nat) (v : Value) (w : World) (h : RrAt w p v s2) => rsmallc p 4095 4095 rfl v s2 w h hl2 (by decide))
  rw [hSL] at HSM hl3
  have hl3 : (a3.getD []).length ≤ 100000000 := hl3
  have HTX := Lib.hid (fun (p : Nat) (v : Value) (w : World) (h : RrAt w p v a3) => rrtext p v a3 w h hl3)
  rw [hTX] at HTX
  clear hSL hTX
  have HKQT : Hid (refK b = 2 ∧ refQ b = (R, N, s2) ∧ refT b = (SL, TX, s3)) := ⟨hK, hQ2, hT2⟩
  clear hT hQ hQ2 hT2 hK hk hb1 hu
  go_enter Tryz.func25, Tryz.ntmps25
  go_upto_region 4 with (first
    | (go_at_call 90; refine (rrread _ b _ HU1.out hl).mono ?_; rintro e w2 ⟨p, v2, rfl, hr, hlo, hb⟩; have HR2 := Lib.hid hr; have HB2 := Lib.hid (bchain HB1.out hb); have KQ2 := Lib.hid (KQ1.out.of_block (hb.block _ (by omega))); have hlo2 : q + 1 ≤ p := (by rw [hz1] at hlo; exact hlo); clear hr hb hlo)
    | (go_at_call 91; (with_reducible refine (HS.out _ _ _ HR2.out).mono ?_); rintro e w3 ⟨v3, rfl, hs⟩; have HR3 := Lib.hid hs; clear hs))
  have hp3 := HR3.out.at_.blk.lt
  have P4 : Hid (PrS w (w3.alloc (.cells #[.int .i64 0, .int .i64 0] 24)) w.heap.size w3.heap.size p v3 s1 0 0) := by
    have hbel := HB2.out.trans (HR3.out.fr.below HB2.out.size (fun i e => by have e : i = p := e; omega))
    have hbx := box_below w3 (.cells #[.int .i64 0, .int .i64 0] 24)
    have kq3 := KQ2.out.fr HR3.out.fr (fun e => by have e : w.heap.size = p := e; omega)
    exact ⟨HR3.out.at_.below hbx, kq3.of_block (hbx.block _ kq3.lt), Blk.new w3 _ _, hbel.trans (hbx.mono hbel.size), by omega, Nat.le_refl _, hbel.size, by omega, by omega, by have := kq3.lt; omega⟩
  rw [hq] at P4
  have hqb : q ≠ w3.heap.size := P4.out.n3
  clear HR2 HR3 HB2 KQ1 KQ2
  obtain ⟨qb, hqbe⟩ : ∃ qb, w3.heap.size = qb := ⟨_, rfl⟩
  rw [hqbe] at P4 ⊢
  rw [hqbe] at hqb
  generalize (w3.alloc (.cells #[.int .i64 0, .int .i64 0] 24)) = w4 at *
  have b40 := P4.out.kb.cell (i := 0) (v := .int .i64 0) rfl
  have b41 := P4.out.kb.cell (i := 1) (v := .int .i64 0) rfl
  have fb0 := P4.out.kb.frozen 0
  have fb1 := P4.out.kb.frozen 1
  go_upto_region 10 with (first
    | (go_at_call 92; (with_reducible refine (HBL.out _ _ _ P4.out.rd).mono ?_); rintro e w5 ⟨v5, rfl, hs⟩; have P5 := Lib.hid ((P4.out.step hs).bal (R : Int) (N : Int)); have b50 := (P4.out.step hs).kb.cell (i := 0) (v := .int .i64 0) rfl; have b51 := (P4.out.step hs).kb.cell (i := 1) (v := .int .i64 0) rfl; have fc0 := (P4.out.step hs).kb.frozen 0; have fc1 := (P4.out.step hs).kb.frozen 1; have d50 := P5.out.kb.cell (i := 0) (v := .int .i64 (R : Int)) rfl; have d51 := P5.out.kb.cell (i := 1) (v := .int .i64 (N : Int)) rfl; clear hs)
    | (go_at_call 91; (with_reducible refine (HSM.out _ _ _ P5.out.rd).mono ?_); rintro e w6 ⟨v6, rfl, hs⟩; have P6 := Lib.hid (P5.out.step hs); clear hs)
    | (go_at_call 93; (with_reducible refine (HTX.out _ _ _ P6.out.rd).mono ?_); rintro e w7 ⟨v7, rfl, hs⟩; have P7 := Lib.hid (P6.out.step hs); have d70 := P7.out.kb.cell (i := 0) (v := .int .i64 (R : Int)) rfl; have d71 := P7.out.kb.cell (i := 1) (v := .int .i64 (N : Int)) rfl; clear hs))
  have kz0 := P7.out.kq.cell (i := 0) (v := .int .i64 0) rfl
  have kz1 := P7.out.kq.cell (i := 1) (v := .int .i64 0) rfl
  have gz0 := P7.out.kq.frozen 0
  have gz1 := P7.out.kq.frozen 1
  by_cases hlong : 65536 < b.length
  case pos =>
    have dl : decide ((b.length : Int) > 65536) = true := decide_eq_true (by omega)
    go_wp2_with fail
    have KF := (P7.out.kq.set 0 (.int .i64 0)).set 1 (.int .i64 0)
    have y0 := KF.cell (i := 0) (v := .int .i64 0) rfl
    have y1 := KF.cell (i := 1) (v := .int .i64 0) rfl
    refine bodyPost_ret (v := .tuple #[.int .i64 0, balV 0 0, .int .i64 0, .string ⟨#[]⟩, .int .i64 10]) (by simp [results, Tryz.results25, go_sem, y0, y1]) rfl ?_
    refine RPost.no (parse_bad (by rw [HKQT.out.1, HKQT.out.2.1, HKQT.out.2.2]; exact .inl hlong)) (P7.out.bel.trans (Fr.below (S := S1 q) (((Fr.refl (S1 q) _).setCell (.inl (show S1 q q from rfl)) _).setCell (.inl (show S1 q q from rfl)) _) P7.out.bel.size (fun i e => by have e : i = q := e; have := P7.out.lq; omega)))
  case neg =>
  have dl : decide ((b.length : Int) > 65536) = false := decide_eq_false (by omega)
  have HG := Lib.hid (fun w => rgood_any (R : Int) (N : Int) w)
  cases hg : okB (R : Int) (N : Int)
  case false =>
    rw [hg] at HG
    go_wp2_with (go_at_call 84; refine (HG.out _).mono ?_; rintro e w8 ⟨rfl, hb⟩; have P8 := Lib.hid (P7.out.below hb); have kw0 := P8.out.kq.cell (i := 0) (v := .int .i64 0) rfl; have kw1 := P8.out.kq.cell (i := 1) (v := .int .i64 0) rfl; have gw0 := P8.out.kq.frozen 0; have gw1 := P8.out.kq.frozen 1; clear hb)
    have KF := (P8.out.kq.set 0 (.int .i64 0)).set 1 (.int .i64 0)
    have y0 := KF.cell (i := 0) (v := .int .i64 0) rfl
    have y1 := KF.cell (i := 1) (v := .int .i64 0) rfl
    refine bodyPost_ret (v := .tuple #[.int .i64 0, balV 0 0, .int .i64 0, .string ⟨#[]⟩, .int .i64 10]) (by simp [results, Tryz.results25, go_sem, y0, y1]) rfl ?_
    refine RPost.no (parse_bad (by rw [HKQT.out.1, HKQT.out.2.1, HKQT.out.2.2]; exact .inr (.inr (.inl ⟨by decide, hg⟩)))) (P8.out.bel.trans (Fr.below (S := S1 q) (((Fr.refl (S1 q) _).setCell (.inl (show S1 q q from rfl)) _).setCell (.inl (show S1 q q from rfl)) _) P8.out.bel.size (fun i e => by have e : i = q := e; have := P8.out.lq; omega)))
  case true =>
  rw [hg] at HG
  by_cases he : endE s3 = 0
  case neg =>
    have he' : (endE s3 != 0) = true := by simpa using he
    go_wp2_with (first
    | (go_at_call 84; refine (HG.out _).mono ?_; rintro e w8 ⟨rfl, hb⟩; have P8 := Lib.hid (P7.out.below hb); have kw0 := P8.out.kq.cell (i := 0) (v := .int .i64 0) rfl; have kw1 := P8.out.kq.cell (i := 1) (v := .int .i64 0) rfl; have gw0 := P8.out.kq.frozen 0; have gw1 := P8.out.kq.frozen 1; have d80 := P8.out.kb.cell (i := 0) (v := .int .i64 (R : Int)) rfl; have d81 := P8.out.kb.cell (i := 1) (v := .int .i64 (N : Int)) rfl; clear hb)
    | (go_at_call 94; refine (rrend p _ s3 _ P8.out.rd).mono ?_; rintro e w9 ⟨rfl, rfl⟩))
    have KF := (P8.out.kq.set 0 (.int .i64 0)).set 1 (.int .i64 0)
    have y0 := KF.cell (i := 0) (v := .int .i64 0) rfl
    have y1 := KF.cell (i := 1) (v := .int .i64 0) rfl
    refine bodyPost_ret (v := .tuple #[.int .i64 0, balV 0 0, .int .i64 0, .string ⟨#[]⟩, .int .i64 10]) (by simp [results, Tryz.results25, go_sem, y0, y1]) rfl ?_
    refine RPost.no (parse_bad (by rw [HKQT.out.1, HKQT.out.2.1, HKQT.out.2.2]; exact .inr (.inr (.inr he)))) (P8.out.bel.trans (Fr.below (S := S1 q) (((Fr.refl (S1 q) _).setCell (.inl (show S1 q q from rfl)) _).setCell (.inl (show S1 q q from rfl)) _) P8.out.bel.size (fun i e => by have e : i = q := e; have := P8.out.lq; omega)))
  case pos =>
  have he' : (endE s3 != 0) = false := by simpa using he
  have HG2 := Lib.hid (parse_good (b := b) (by
    rw [HKQT.out.1, HKQT.out.2.1, HKQT.out.2.2]
    rintro (h | h | h | h)
    · exact hlong h
    · exact absurd h (by decide)
    · rw [show okB ((R : Nat) : Int) ((N : Nat) : Int) = true from hg] at h; exact absurd h.2 (by simp)
    · exact h he))
  rw [HKQT.out.1, HKQT.out.2.1, HKQT.out.2.2] at HG2
  go_upto_region 12 with (first
    | (go_at_call 84; refine (HG.out _).mono ?_; rintro e w8 ⟨rfl, hb⟩; have P8 := Lib.hid (P7.out.below hb); have kw0 := P8.out.kq.cell (i := 0) (v := .int .i64 0) rfl; have kw1 := P8.out.kq.cell (i := 1) (v := .int .i64 0) rfl; have gw0 := P8.out.kq.frozen 0; have gw1 := P8.out.kq.frozen 1; have d80 := P8.out.kb.cell (i := 0) (v := .int .i64 (R : Int)) rfl; have d81 := P8.out.kb.cell (i := 1) (v := .int .i64 (N : Int)) rfl; clear hb)
    | (go_at_call 94; refine (rrend p _ s3 _ P8.out.rd).mono ?_; rintro e w9 ⟨rfl, rfl⟩))
  have u0 := P8.out.kb.cell (i := 0) (v := .int .i64 (R : Int)) rfl
  have u1 := P8.out.kb.cell (i := 1) (v := .int .i64 (N : Int)) rfl
  refine wp_region_held_drew (S := (fun W => W.cell? ⟨qb, 0, none⟩ = some (.int .i64 (R : Int)) ∧ W.cell? ⟨qb, 1, none⟩ = some (.int .i64 (N : Int)))) (by kernel_rfl) ?_ (fun hHeld => ?_)
  · exact ⟨u0, u1⟩
  try dsimp only at hHeld
  refine held_yes (i := 0) (some 57) (v := ?_) rfl rfl (by kernel_rfl) (by kernel_rfl) (by kernel_rfl) (fun _ _ _ h => h) (by rfl) ?_ hHeld ?_
  rotate_left
  · (intro w hSw; (try dsimp only at hSw); go_simp; all_goals with_reducible rfl)
  try simp only [Act.put, List.setIfInBounds_toArray, List.set_cons_zero, List.set_cons_succ]
  refine held_yes (i := 1) (some 58) (v := ?_) rfl rfl (by kernel_rfl) (by kernel_rfl) (by kernel_rfl) (fun _ _ _ h => h) (by rfl) ?_ hHeld ?_
  rotate_left
  · (intro w hSw; (try dsimp only at hSw); go_simp; all_goals with_reducible rfl)
  try simp only [Act.put, List.setIfInBounds_toArray, List.set_cons_zero, List.set_cons_succ]
  refine held_yes (i := 2) (some 59) (v := ?_) rfl rfl (by kernel_rfl) (by kernel_rfl) (by kernel_rfl) (fun _ _ _ h => h) (by rfl) ?_ hHeld ?_
  rotate_left
  · (intro w hSw; (try dsimp only at hSw); go_simp; all_goals with_reducible rfl)
  try simp only [Act.put, List.setIfInBounds_toArray, List.set_cons_zero, List.set_cons_succ]
  refine held_yes (i := 3) (some 60) (v := ?_) rfl rfl (by kernel_rfl) (by kernel_rfl) (by kernel_rfl) (fun _ _ _ h => h) (by rfl) ?_ hHeld ?_
  rotate_left
  · (intro w hSw; (try dsimp only at hSw); go_simp; all_goals with_reducible rfl)
  try simp only [Act.put, List.setIfInBounds_toArray, List.set_cons_zero, List.set_cons_succ]
  refine held_yes (i := 4) (some 2) (v := ?_) rfl rfl (by kernel_rfl) (by kernel_rfl) (by kernel_rfl) (fun _ _ _ h => h) (by rfl) ?_ hHeld ?_
  rotate_left
  · (intro w hSw; (try dsimp only at hSw); go_simp; all_goals with_reducible rfl)
  try simp only [Act.put, List.setIfInBounds_toArray, List.set_cons_zero, List.set_cons_succ]
  refine wpAnyH_ready (rs := [5]) (by kernel_rfl) (by simp) ?_
  refine (AllReadyH.cons rfl (fun K' hK' => ?_) AllReadyH.nil)
  go_simp
  refine hK'.out _ _ ?_ (fun hHeld => ?_)
  · first | exact hHeld | exact ⟨cell_setB (cell_setB hHeld.1 hqb) hqb, cell_setB (cell_setB hHeld.2 hqb) hqb⟩
  clear hK' K'
  try dsimp only at hHeld
  try simp only [Act.put, List.setIfInBounds_toArray, List.set_cons_zero, List.set_cons_succ]
  refine held_yes (i := 6) (some 4) (v := ?_) rfl rfl (by kernel_rfl) (by kernel_rfl) (by kernel_rfl) (fun _ _ _ h => h) (by rfl) ?_ hHeld ?_
  rotate_left
  · (intro w hSw; (try dsimp only at hSw); go_simp; all_goals with_reducible rfl)
  try simp only [Act.put, List.setIfInBounds_toArray, List.set_cons_zero, List.set_cons_succ]
  refine held_yes (i := 7) (some 5) (v := ?_) rfl rfl (by kernel_rfl) (by kernel_rfl) (by kernel_rfl) (fun _ _ _ h => h) (by rfl) ?_ hHeld ?_
  rotate_left
  · (intro w hSw; (try dsimp only at hSw); go_simp; all_goals with_reducible rfl)
  try simp only [Act.put, List.setIfInBounds_toArray, List.set_cons_zero, List.set_cons_succ]
  refine held_yes (i := 8) (some 6) (v := ?_) rfl rfl (by kernel_rfl) (by kernel_rfl) (by kernel_rfl) (fun _ _ _ h => h) (by rfl) ?_ hHeld ?_
  rotate_left
  · (intro w hSw; (try dsimp only at hSw); go_simp; all_goals with_reducible rfl)
  try simp only [Act.put, List.setIfInBounds_toArray, List.set_cons_zero, List.set_cons_succ]
  refine wpAnyH_done (by kernel_rfl) ?_ _
  go_wp2_with fail
  have KF := (P8.out.kq.set 0 (.int .i64 (R : Int))).set 1 (.int .i64 (N : Int))
  have y0 := KF.cell (i := 0) (v := .int .i64 (R : Int)) rfl
  have y1 := KF.cell (i := 1) (v := .int .i64 (N : Int)) rfl
  refine bodyPost_ret (v := .tuple #[.int .i64 2, balV (R : Int) (N : Int), .int .i64 (SL : Int), .string (sB TX), .int .i64 0]) (by simp [results, Tryz.results25, go_sem, y0, y1]) rfl ?_
  exact RPost.yes HG2.out (P8.out.bel.trans (Fr.below (S := S1 q) ((((Fr.refl (S1 q) _).setCell (.inl (show S1 q q from rfl)) _).setCell (.inl (show S1 q q from rfl)) _).drew) P8.out.bel.size (fun i e => by have e : i = q := e; have := P8.out.lq; omega)))
set_option maxRecDepth 100000 in
set_option maxHeartbeats 2000000 in
theorem rparse3 (u : Value) (b : List UInt8) (w : World) (hu : BsIn w u b) (hl : b.length ≤ 100000000) (hK : refK b = 3) : Calls Tryz.prog 25 #[u] w (RPost w b) := by
  obtain ⟨A0, c0, rfl, hle0, hm0⟩ := hu.shape
  have hb1 := box_below w (.cells #[.int .i64 0, .int .i64 0] 24)
  have HU1 := Lib.hid (hu.below hb1)
  have HB1 := Lib.hid hb1
  have KQ1 := Lib.hid (Blk.new w 24 #[.int .i64 0, .int .i64 0])
  obtain ⟨q, hq⟩ : ∃ q, w.heap.size = q := ⟨_, rfl⟩
  have hz1 : (w.alloc (.cells #[.int .i64 0, .int .i64 0] 24)).heap.size = q + 1 := by rw [World.size_alloc, hq]
  have hlb : ((some b : Rd).getD []).length ≤ 100000000 := hl
  have HS := Lib.hid (fun (p : Nat) (v : Value) (w : World) (h : RrAt w p v (some b)) => rsmallc p 3 3 rfl v (some b) w h hlb (by decide))
  have hl1 := rdM_len (most := 3) _ hlb
  have hT : refT b = refVal (refK b) (refQ b).2.2 := rfl
  have hQ : refQ b = refBal (refK b) (rdM 3 (some b)).2 := rfl
  rw [hK] at hT hQ
  obtain ⟨⟨k, s1⟩, hk⟩ : ∃ x, rdM 3 (some b) = x := ⟨_, rfl⟩
  have hkK : k = 3 := by
    have e : refK b = k := by unfold refK; rw [hk]
    omega
  subst hkK
  rw [hk] at HS hl1 hQ
  have hl1 : (s1.getD []).length ≤ 100000000 := hl1
  have hQ2 : refQ b = (0, 0, s1) := hQ
  obtain ⟨⟨SL, a3⟩, hSL⟩ : ∃ x, rdM 4095 s1 = x := ⟨_, rfl⟩
  obtain ⟨⟨TX, s3⟩, hTX⟩ : ∃ x, rdT a3 = x := ⟨_, rfl⟩
  have hT2 : refT b = (SL, TX, s3) := by rw [hT, hQ2]; show ((rdM 4095 s1).1, (rdT (rdM 4095 s1).2).1, (rdT (rdM 4095 s1).2).2) = _; rw [hSL]; show (SL, (rdT a3).1, (rdT a3).2) = _; rw [hTX]
  have hl3 := rdM_len (most := 4095) _ hl1
  have HSM := Lib.hid (fun (p : Nat) (v : Value) (w : World) (h : RrAt w p v s1) => rsmallc p 4095 4095 rfl v s1 w h hl1 (by decide))
  rw [hSL] at HSM hl3
  have hl3 : (a3.getD []).length ≤ 100000000 := hl3
  have HTX := Lib.hid (fun (p : Nat) (v : Value) (w : World) (h : RrAt w p v a3) => rrtext p v a3 w h hl3)
  rw [hTX] at HTX
  clear hSL hTX
  have HKQT : Hid (refK b = 3 ∧ refQ b = (0, 0, s1) ∧ refT b = (SL, TX, s3)) := ⟨hK, hQ2, hT2⟩
  clear hT hQ hQ2 hT2 hK hk hb1 hu
  go_enter Tryz.func25, Tryz.ntmps25
  go_upto_region 4 with (first
    | (go_at_call 90; refine (rrread _ b _ HU1.out hl).mono ?_; rintro e w2 ⟨p, v2, rfl, hr, hlo, hb⟩; have HR2 := Lib.hid hr; have HB2 := Lib.hid (bchain HB1.out hb); have KQ2 := Lib.hid (KQ1.out.of_block (hb.block _ (by omega))); have hlo2 : q + 1 ≤ p := (by rw [hz1] at hlo; exact hlo); clear hr hb hlo)
    | (go_at_call 91; (with_reducible refine (HS.out _ _ _ HR2.out).mono ?_); rintro e w3 ⟨v3, rfl, hs⟩; have HR3 := Lib.hid hs; clear hs))
  have hp3 := HR3.out.at_.blk.lt
  have P4 : Hid (PrS w (w3.alloc (.cells #[.int .i64 0, .int .i64 0] 24)) w.heap.size w3.heap.size p v3 s1 0 0) := by
    have hbel := HB2.out.trans (HR3.out.fr.below HB2.out.size (fun i e => by have e : i = p := e; omega))
    have hbx := box_below w3 (.cells #[.int .i64 0, .int .i64 0] 24)
    have kq3 := KQ2.out.fr HR3.out.fr (fun e => by have e : w.heap.size = p := e; omega)
    exact ⟨HR3.out.at_.below hbx, kq3.of_block (hbx.block _ kq3.lt), Blk.new w3 _ _, hbel.trans (hbx.mono hbel.size), by omega, Nat.le_refl _, hbel.size, by omega, by omega, by have := kq3.lt; omega⟩
  rw [hq] at P4
  have hqb : q ≠ w3.heap.size := P4.out.n3
  clear HR2 HR3 HB2 KQ1 KQ2
  obtain ⟨qb, hqbe⟩ : ∃ qb, w3.heap.size = qb := ⟨_, rfl⟩
  rw [hqbe] at P4 ⊢
  rw [hqbe] at hqb
  generalize (w3.alloc (.cells #[.int .i64 0, .int .i64 0] 24)) = w4 at *
  have b40 := P4.out.kb.cell (i := 0) (v := .int .i64 0) rfl
  have b41 := P4.out.kb.cell (i := 1) (v := .int .i64 0) rfl
  have fb0 := P4.out.kb.frozen 0
  have fb1 := P4.out.kb.frozen 1
  go_upto_region 10 with (first
    | (go_at_call 91; (with_reducible refine (HSM.out _ _ _ P4.out.rd).mono ?_); rintro e w6 ⟨v6, rfl, hs⟩; have P6 := Lib.hid (P4.out.step hs); clear hs)
    | (go_at_call 93; (with_reducible refine (HTX.out _ _ _ P6.out.rd).mono ?_); rintro e w7 ⟨v7, rfl, hs⟩; have P7 := Lib.hid (P6.out.step hs); have d70 := P7.out.kb.cell (i := 0) (v := .int .i64 (0 : Int)) rfl; have d71 := P7.out.kb.cell (i := 1) (v := .int .i64 (0 : Int)) rfl; clear hs))
  have kz0 := P7.out.kq.cell (i := 0) (v := .int .i64 0) rfl
  have kz1 := P7.out.kq.cell (i := 1) (v := .int .i64 0) rfl
  have gz0 := P7.out.kq.frozen 0
  have gz1 := P7.out.kq.frozen 1
  by_cases hlong : 65536 < b.length
  case pos =>
    have dl : decide ((b.length : Int) > 65536) = true := decide_eq_true (by omega)
    go_wp2_with fail
    have KF := (P7.out.kq.set 0 (.int .i64 0)).set 1 (.int .i64 0)
    have y0 := KF.cell (i := 0) (v := .int .i64 0) rfl
    have y1 := KF.cell (i := 1) (v := .int .i64 0) rfl
    refine bodyPost_ret (v := .tuple #[.int .i64 0, balV 0 0, .int .i64 0, .string ⟨#[]⟩, .int .i64 10]) (by simp [results, Tryz.results25, go_sem, y0, y1]) rfl ?_
    refine RPost.no (parse_bad (by rw [HKQT.out.1, HKQT.out.2.1, HKQT.out.2.2]; exact .inl hlong)) (P7.out.bel.trans (Fr.below (S := S1 q) (((Fr.refl (S1 q) _).setCell (.inl (show S1 q q from rfl)) _).setCell (.inl (show S1 q q from rfl)) _) P7.out.bel.size (fun i e => by have e : i = q := e; have := P7.out.lq; omega)))
  case neg =>
  have dl : decide ((b.length : Int) > 65536) = false := decide_eq_false (by omega)
  by_cases he : endE s3 = 0
  case neg =>
    have he' : (endE s3 != 0) = true := by simpa using he
    go_wp2_with (first
    | (go_at_call 94; refine (rrend p _ s3 _ P7.out.rd).mono ?_; rintro e w9 ⟨rfl, rfl⟩))
    have KF := (P7.out.kq.set 0 (.int .i64 0)).set 1 (.int .i64 0)
    have y0 := KF.cell (i := 0) (v := .int .i64 0) rfl
    have y1 := KF.cell (i := 1) (v := .int .i64 0) rfl
    refine bodyPost_ret (v := .tuple #[.int .i64 0, balV 0 0, .int .i64 0, .string ⟨#[]⟩, .int .i64 10]) (by simp [results, Tryz.results25, go_sem, y0, y1]) rfl ?_
    refine RPost.no (parse_bad (by rw [HKQT.out.1, HKQT.out.2.1, HKQT.out.2.2]; exact .inr (.inr (.inr he)))) (P7.out.bel.trans (Fr.below (S := S1 q) (((Fr.refl (S1 q) _).setCell (.inl (show S1 q q from rfl)) _).setCell (.inl (show S1 q q from rfl)) _) P7.out.bel.size (fun i e => by have e : i = q := e; have := P7.out.lq; omega)))
  case pos =>
  have he' : (endE s3 != 0) = false := by simpa using he
  have HG2 := Lib.hid (parse_good (b := b) (by
    rw [HKQT.out.1, HKQT.out.2.1, HKQT.out.2.2]
    rintro (h | h | h | h)
    · exact hlong h
    · exact absurd h (by decide)
    · exact absurd h.1 (by decide)
    · exact h he))
  rw [HKQT.out.1, HKQT.out.2.1, HKQT.out.2.2] at HG2
  go_upto_region 12 with (first
    | (go_at_call 94; refine (rrend p _ s3 _ P7.out.rd).mono ?_; rintro e w9 ⟨rfl, rfl⟩))
  have u0 := P7.out.kb.cell (i := 0) (v := .int .i64 (0 : Int)) rfl
  have u1 := P7.out.kb.cell (i := 1) (v := .int .i64 (0 : Int)) rfl
  refine wp_region_held_drew (S := (fun W => W.cell? ⟨qb, 0, none⟩ = some (.int .i64 (0 : Int)) ∧ W.cell? ⟨qb, 1, none⟩ = some (.int .i64 (0 : Int)))) (by kernel_rfl) ?_ (fun hHeld => ?_)
  · exact ⟨u0, u1⟩
  try dsimp only at hHeld
  refine held_yes (i := 0) (some 57) (v := ?_) rfl rfl (by kernel_rfl) (by kernel_rfl) (by kernel_rfl) (fun _ _ _ h => h) (by rfl) ?_ hHeld ?_
  rotate_left
  · (intro w hSw; (try dsimp only at hSw); go_simp; all_goals with_reducible rfl)
  try simp only [Act.put, List.setIfInBounds_toArray, List.set_cons_zero, List.set_cons_succ]
  refine held_yes (i := 1) (some 58) (v := ?_) rfl rfl (by kernel_rfl) (by kernel_rfl) (by kernel_rfl) (fun _ _ _ h => h) (by rfl) ?_ hHeld ?_
  rotate_left
  · (intro w hSw; (try dsimp only at hSw); go_simp; all_goals with_reducible rfl)
  try simp only [Act.put, List.setIfInBounds_toArray, List.set_cons_zero, List.set_cons_succ]
  refine held_yes (i := 2) (some 59) (v := ?_) rfl rfl (by kernel_rfl) (by kernel_rfl) (by kernel_rfl) (fun _ _ _ h => h) (by rfl) ?_ hHeld ?_
  rotate_left
  · (intro w hSw; (try dsimp only at hSw); go_simp; all_goals with_reducible rfl)
  try simp only [Act.put, List.setIfInBounds_toArray, List.set_cons_zero, List.set_cons_succ]
  refine held_yes (i := 3) (some 60) (v := ?_) rfl rfl (by kernel_rfl) (by kernel_rfl) (by kernel_rfl) (fun _ _ _ h => h) (by rfl) ?_ hHeld ?_
  rotate_left
  · (intro w hSw; (try dsimp only at hSw); go_simp; all_goals with_reducible rfl)
  try simp only [Act.put, List.setIfInBounds_toArray, List.set_cons_zero, List.set_cons_succ]
  refine held_yes (i := 4) (some 2) (v := ?_) rfl rfl (by kernel_rfl) (by kernel_rfl) (by kernel_rfl) (fun _ _ _ h => h) (by rfl) ?_ hHeld ?_
  rotate_left
  · (intro w hSw; (try dsimp only at hSw); go_simp; all_goals with_reducible rfl)
  try simp only [Act.put, List.setIfInBounds_toArray, List.set_cons_zero, List.set_cons_succ]
  refine wpAnyH_ready (rs := [5]) (by kernel_rfl) (by simp) ?_
  refine (AllReadyH.cons rfl (fun K' hK' => ?_) AllReadyH.nil)
  go_simp
  refine hK'.out _ _ ?_ (fun hHeld => ?_)
  · first | exact hHeld | exact ⟨cell_setB (cell_setB hHeld.1 hqb) hqb, cell_setB (cell_setB hHeld.2 hqb) hqb⟩
  clear hK' K'
  try dsimp only at hHeld
  try simp only [Act.put, List.setIfInBounds_toArray, List.set_cons_zero, List.set_cons_succ]
  refine held_yes (i := 6) (some 4) (v := ?_) rfl rfl (by kernel_rfl) (by kernel_rfl) (by kernel_rfl) (fun _ _ _ h => h) (by rfl) ?_ hHeld ?_
  rotate_left
  · (intro w hSw; (try dsimp only at hSw); go_simp; all_goals with_reducible rfl)
  try simp only [Act.put, List.setIfInBounds_toArray, List.set_cons_zero, List.set_cons_succ]
  refine held_yes (i := 7) (some 5) (v := ?_) rfl rfl (by kernel_rfl) (by kernel_rfl) (by kernel_rfl) (fun _ _ _ h => h) (by rfl) ?_ hHeld ?_
  rotate_left
  · (intro w hSw; (try dsimp only at hSw); go_simp; all_goals with_reducible rfl)
  try simp only [Act.put, List.setIfInBounds_toArray, List.set_cons_zero, List.set_cons_succ]
  refine held_yes (i := 8) (some 6) (v := ?_) rfl rfl (by kernel_rfl) (by kernel_rfl) (by kernel_rfl) (fun _ _ _ h => h) (by rfl) ?_ hHeld ?_
  rotate_left
  · (intro w hSw; (try dsimp only at hSw); go_simp; all_goals with_reducible rfl)
  try simp only [Act.put, List.setIfInBounds_toArray, List.set_cons_zero, List.set_cons_succ]
  refine wpAnyH_done (by kernel_rfl) ?_ _
  go_wp2_with fail
  have KF := (P7.out.kq.set 0 (.int .i64 (0 : Int))).set 1 (.int .i64 (0 : Int))
  have y0 := KF.cell (i := 0) (v := .int .i64 (0 : Int)) rfl
  have y1 := KF.cell (i := 1) (v := .int .i64 (0 : Int)) rfl
  refine bodyPost_ret (v := .tuple #[.int .i64 3, balV (0 : Int) (0 : Int), .int .i64 (SL : Int), .string (sB TX), .int .i64 0]) (by simp [results, Tryz.results25, go_sem, y0, y1]) rfl ?_
  exact RPost.yes HG2.out (P7.out.bel.trans (Fr.below (S := S1 q) ((((Fr.refl (S1 q) _).setCell (.inl (show S1 q q from rfl)) _).setCell (.inl (show S1 q q from rfl)) _).drew) P7.out.bel.size (fun i e => by have e : i = q := e; have := P7.out.lq; omega)))
theorem rparse_any (u : Value) (b : List UInt8) (w : World) (hu : BsIn w u b) (hl : b.length ≤ 100000000) : Calls Tryz.prog 25 #[u] w (RPost w b) := by
  have h3 : refK b ≤ 3 := rdM_le 3 _
  rcases (show refK b = 0 ∨ refK b = 1 ∨ refK b = 2 ∨ refK b = 3 by omega) with h | h | h | h
  · exact rparse0 u b w hu hl h
  · exact rparse1 u b w hu hl h
  · exact rparse2 u b w hu hl h
  · exact rparse3 u b w hu hl h
theorem pparse_any (u : Value) (b : List UInt8) (w : World) (hu : BsIn w u b) (hl : b.length ≤ 100000000) : Calls Tryz.prog 24 #[u] w (RPost w b) := by
  cases h : parseP b with
  | none =>
    refine (Parse_none u b w hu hl h).mono ?_
    rintro e w' ⟨rfl, hb⟩
    exact RPost.no h hb
  | some x =>
    refine (Parse_some u b x w hu hl h).mono ?_
    rintro e w' ⟨rfl, hb⟩
    exact RPost.yes h hb
end Go.Proofs.YtlfikhblmbidmaaGreatDoor
