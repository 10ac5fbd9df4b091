/- The walk of skaldlaw25.ChosenRefuses: it returns true, and writes nothing that was there. -/
import Derived.Test.YthkdmpalhdifbaaGreatDoorRefu
import Derived.Test.YthkdmpalhdifbaaGreatDoorChoX
import Derived.OpenShut
import Derived.Deep.AppendLies
import Derived.Deep.DeepCutAuto
import Derived.Deep.CutBlock
import Derived.Deep.LoopGhost
import Derived.Deep.RegionHeld3
set_option linter.unusedVariables false
set_option linter.unusedSimpArgs false
namespace Go.Proofs.YthkdmpalhdifbaaGreatDoor.chosenRefuses
open Go.RowKit Go.Shelf

theorem chk1 {n : Nat} (hn : 1 ≤ n ∧ n ≤ 7) : chkE n 1 0 = 0 := by
  unfold chkE
  rw [if_neg (by omega), if_neg (by omega), if_neg (by omega)]
theorem chkBig {n m : Nat} (hn : 1 ≤ n ∧ n ≤ 7) : chkE n 1 ((n : Int) + (m : Int)) = 2 := by
  unfold chkE
  rw [if_neg (by omega), if_neg (by omega), if_pos (by omega)]
/-- The vote that is put behind the others. -/
structure NoFit (n : Nat) (L : List Vt) (x : Vt) : Prop where
  poss : Poss n L
  len : L.length ≤ 41
  no : ¬ Fits n L x
theorem noFit_alone {n : Nat} {L : List Vt} {x : Vt} (h : VOk n L) (hx : aloneB x n = false) : NoFit n L x := ⟨h.poss, by have := h.len; omega, fun hf => by rw [hf.1] at hx; cases hx⟩
theorem al_false {n : Nat} {x : Vt} (hn : 1 ≤ n ∧ n ≤ 7) (h : ¬ ((0 ≤ x.nd ∧ x.nd < n) ∧ (1 ≤ x.r ∧ x.r ≤ 1073741824) ∧ (0 ≤ x.d ∧ x.d < n) ∧ (0 ≤ x.sl ∧ x.sl < 4096) ∧ x.v.size ≤ 65536)) : aloneB x n = false := by
  rw [Bool.eq_false_iff]
  intro ha
  exact h (alone_r hn ha)
def baseV (n : Nat) : Vt := ⟨(n : Int) - 1, 8, 0, 2, ⟨#[118]⟩⟩
theorem base_fits {n : Nat} {L : List Vt} (hn : 1 ≤ n ∧ n ≤ 7) (h : VOk n L) : Fits n L (baseV n) := by
  refine ⟨?_, fun y hy _ => ?_⟩
  · unfold aloneB chkE baseV
    rw [if_neg (show ¬ ((n : Int) < 1 ∨ 7 < (n : Int)) by omega), if_neg (show ¬ ((8 : Int) = 0 ∧ (0 : Int) = 0) by omega), if_neg (show ¬ ((8 : Int) < 1 ∨ 1073741824 < (8 : Int) ∨ (0 : Int) < 0 ∨ (n : Int) ≤ 0) by omega)]
    simp only [Bool.and_eq_true, decide_eq_true_eq]
    refine ⟨by omega, by omega, by decide, by decide, ⟨by decide, by decide⟩, by decide⟩
  · have := (h.few y hy).1
    refine ⟨fun e => ?_, fun _ hb => ?_⟩
    · simp only [baseV, Prod.mk.injEq] at e; omega
    · rw [blt_def] at hb
      simp only [baseV] at hb
      omega
theorem noFit_w {n : Nat} {L : List Vt} (hn : 1 ≤ n ∧ n ≤ 7) (h : VOk n L) : NoFit n (L ++ [baseV n]) ⟨(n : Int) - 1, 8, 0, 2, ⟨#[119]⟩⟩ := by
  refine ⟨h.poss.snoc (base_fits hn h), by have := h.len; simp; omega, fun hf => ?_⟩
  have := (hf.2 (baseV n) (by simp) rfl).1 rfl
  have h2 : ([118] : List UInt8) = [119] := congrArg (fun b : ByteArray => b.data.toList) this
  exact absurd h2 (by decide)
theorem noFit_d {n : Nat} {L : List Vt} {d : Int} (hn : 1 ≤ n ∧ n ≤ 7) (h : VOk n L) : NoFit n (L ++ [baseV n]) ⟨(n : Int) - 1, 7, d, 2, ⟨#[118]⟩⟩ := by
  refine ⟨h.poss.snoc (base_fits hn h), by have := h.len; simp; omega, fun hf => ?_⟩
  exact (hf.2 (baseV n) (by simp) rfl).2 rfl (blt_def.2 (.inl (show (7 : Int) < 8 by decide)))
theorem rep_size : (⟨(Lib.repeatL (⟨#[118]⟩ : ByteArray).data.toList 65537).toArray⟩ : ByteArray).size = 65537 := by
  show (Lib.repeatL [118] 65537).toArray.size = 65537
  rw [List.size_toArray, Lib.repeatL_length]
  rfl
theorem row_two {w : World} {lo : Nat} {v : Value} {L : List Vt} {xn xr xd xs : Int} {xv : ByteArray} (h : w.ownsRow lo 35 5 v (L.length + 2) (flat encVt L ++ [.int .i64 xn, .int .i64 xr, .int .i64 xd, .int .i64 xs, .string xv, .int .i64 xn, .int .i64 xr, .int .i64 xd, .int .i64 xs, .string xv])) :
    VtRow w lo v (L ++ [⟨xn, xr, xd, xs, xv⟩, ⟨xn, xr, xd, xs, xv⟩]) := by
  unfold VtRow
  rw [List.length_append]
  have e1 : flat encVt (L ++ [⟨xn, xr, xd, xs, xv⟩, ⟨xn, xr, xd, xs, xv⟩]) = flat encVt L ++ [.int .i64 xn, .int .i64 xr, .int .i64 xd, .int .i64 xs, .string xv, .int .i64 xn, .int .i64 xr, .int .i64 xd, .int .i64 xs, .string xv] := by unfold flat; rw [List.flatMap_append]; rfl
  rw [e1]
  exact h
set_option maxRecDepth 100000 in
set_option maxHeartbeats 40000000 in
theorem walk (x : Int) (v : Value) (zs : List Nat) (y : Int) (far : Int) (W : World) (w0 : (Lit.int .u8 x).wf = true) (w1 : NumsIn W v zs) (w2 : (Lit.int .u8 y).wf = true) (w3 : (Lit.int .u16 far).wf = true) (ht : TabP W) :
    Calls Tryz.prog 6 #[.int .u8 x, v, .int .u8 y, .int .u16 far] W fun e w' => e = .returned (.bool true) ∧ Below W.heap.size W w' := by
  obtain ⟨x, hx256, rfl⟩ := u8_nat w0
  obtain ⟨y, hy256, rfl⟩ := u8_nat w2
  obtain ⟨m, hm, rfl⟩ : ∃ m : Nat, m < 65536 ∧ far = (m : Int) := by have := u16_wf w3; exact ⟨far.toNat, by omega, by omega⟩
  obtain ⟨i0, hi, hz0, hz1, hz2⟩ := info_parts info_vt
  have HI := Lib.hid hi
  have HZ0 := Lib.hid hz0
  have HZ1 := Lib.hid hz1
  have HZ2 := Lib.hid hz2
  have HN := Lib.hid w1
  have hw := @works_any
  have HW := Lib.hid hw
  obtain ⟨n, hn⟩ : ∃ n : Nat, n = 1 + x % 7 := ⟨_, rfl⟩
  have hn7 : 1 ≤ n ∧ n ≤ 7 := by omega
  have hxn : (1 : Int) + (x : Int) % 7 = (n : Int) := by omega
  have hwn : IntKind.i64.wrap ((n : Int) - 1) = (n : Int) - 1 := by rw [IntKind.wrap_i64]; omega
  have hb8 : ∀ w : World, (Instr.build 24 #[(0, .int .i64 8)]).run Tryz.prog w = .ok (balV 8 0) w := fun w => bldBal1 8 w
  have hwm : IntKind.i64.wrap (m : Int) = (m : Int) := by rw [IntKind.wrap_i64]; omega
  clear w0 w1 w2 w3 ht hw hn hi hz0 hz1 hz2
  go_enter Tryz.func6, Tryz.ntmps6
  go_upto_region 3 with (go_at_call 25; refine (votes_any n v zs _ HN.out hn7).mono ?_; rintro e w1 ⟨vo, L, rfl, r1, o1, b1⟩; have R1 := Lib.hid r1; have OK := Lib.hid o1; have B1 := Lib.hid b1; clear r1 o1 b1)
  go_upto_region 4 with fail
  have bw := box_below w1 (.cells #[.int .i64 ((n : Int) - 1), .int .i64 8, .int .i64 0, .int .i64 2, .string ⟨#[118]⟩] 35)
  have KV := Lib.hid (Blk.new w1 35 #[.int .i64 ((n : Int) - 1), .int .i64 8, .int .i64 0, .int .i64 2, .string ⟨#[118]⟩])
  have R2 := Lib.hid (VtRow.fr R1.out (Fr.of_below bw : Fr S0 _ _) (fun g hg h => h))
  have B2 := Lib.hid (bchain B1.out bw)
  have hown : ∀ g, vo.ownBlock = some g → W.heap.size ≤ g ∧ g < w1.heap.size := fun g hg => World.ownsRow.lt R1.out g hg
  have hw1 := B1.out.size
  generalize (w1.alloc (.cells #[.int .i64 ((n : Int) - 1), .int .i64 8, .int .i64 0, .int .i64 2, .string ⟨#[118]⟩] 35)) = W2 at *
  obtain ⟨bv, hbv⟩ : ∃ bv, bv = w1.heap.size := ⟨_, rfl⟩
  rw [← hbv] at KV hown hw1 ⊢
  clear bw hbv R1 B1
  obtain ⟨T, hT⟩ : ∃ T : Nat, T = y % 8 := ⟨_, rfl⟩
  have hT8 : T < 8 := by omega
  have hyT : (y : Int) % 8 = (T : Int) := by omega
  clear hT
  go_upto_block 0 with fail
  try rw [hyT]
  go_cut [11] (fun va wx => ∃ (L' : List Vt) (x' : Vt), VtRow wx W.heap.size va L' ∧ Blk wx bv 35 #[.int .i64 x'.nd, .int .i64 x'.r, .int .i64 x'.d, .int .i64 x'.sl, .string x'.v] ∧ NoFit n L' x' ∧ Below W.heap.size W wx)
  case first =>
    as_aux_lemma =>
      have v0 := KV.out.cell (i := 0) (v := .int .i64 ((n : Int) - 1)) rfl
      have v1 := KV.out.cell (i := 1) (v := .int .i64 8) rfl
      have v2 := KV.out.cell (i := 2) (v := .int .i64 0) rfl
      have v3 := KV.out.cell (i := 3) (v := .int .i64 2) rfl
      have v4 := KV.out.cell (i := 4) (v := .string ⟨#[118]⟩) rfl
      have z0 := KV.out.frozen 0
      have z1 := KV.out.frozen 1
      have z2 := KV.out.frozen 2
      have z3 := KV.out.frozen 3
      have z4 := KV.out.frozen 4
      have hwa : IntKind.i64.wrap ((n : Int) + (m : Int)) = (n : Int) + (m : Int) := by rw [IntKind.wrap_i64]; omega
      have hwb : IntKind.i64.wrap (-1 - (m : Int)) = -1 - (m : Int) := by rw [IntKind.wrap_i64]; omega
      have hwc : IntKind.i64.wrap (4096 + (m : Int)) = 4096 + (m : Int) := by rw [IntKind.wrap_i64]; omega
      have hb0 := fun w => bldBal0 w
      have hTT : T = 0 ∨ T = 1 ∨ T = 2 ∨ T = 3 ∨ T = 4 ∨ T = 5 ∨ T = 6 ∨ T = 7 := by omega
      have hfr : ∀ W' : World, Fr (S1 bv) W2 W' → VtRow W' W.heap.size vo L ∧ Below W.heap.size W W' := fun W' f => ⟨VtRow.fr R2.out f (fun g hg e => by have := hown g hg; have e : g = bv := e; omega), Fr.upB B2.out f (fun i e => by have e : i = bv := e; omega)⟩
      have HFR := Lib.hid hfr
      clear hT8 hfr
      rcases hTT with rfl | rfl | rfl | rfl | rfl | rfl | rfl | rfl
      · go_wp2_with fail
        go_meet
        have hf := HFR.out _ ((Fr.refl (S1 bv) W2).setCell (p := ⟨bv, 0, none⟩) (.inl rfl) (.int .i64 ((n : Int) + (m : Int))))
        exact ⟨L, ⟨((n : Int) + (m : Int)), 8, 0, 2, ⟨#[118]⟩⟩, hf.1, (KV.out.set 0 (.int .i64 ((n : Int) + (m : Int)))), noFit_alone OK.out (al_false hn7 (by simp only; omega)), hf.2⟩
      · go_wp2_with fail
        go_meet
        have hf := HFR.out _ ((Fr.refl (S1 bv) W2).setCell (p := ⟨bv, 0, none⟩) (.inl rfl) (.int .i64 (-1 - (m : Int))))
        exact ⟨L, ⟨(-1 - (m : Int)), 8, 0, 2, ⟨#[118]⟩⟩, hf.1, (KV.out.set 0 (.int .i64 (-1 - (m : Int)))), noFit_alone OK.out (al_false hn7 (by simp only; omega)), hf.2⟩
      · go_wp2_with fail
        go_meet
        have hf := HFR.out _ (((Fr.refl (S1 bv) W2).setCell (p := ⟨bv, 1, none⟩) (.inl rfl) (.int .i64 0)).setCell (p := ⟨bv, 2, none⟩) (.inl rfl) (.int .i64 0))
        exact ⟨L, ⟨((n : Int) - 1), 0, 0, 2, ⟨#[118]⟩⟩, hf.1, ((KV.out.set 1 (.int .i64 0)).set 2 (.int .i64 0)), noFit_alone OK.out (al_false hn7 (by simp only; omega)), hf.2⟩
      · go_wp2_with fail
        go_meet
        have hf := HFR.out _ ((Fr.refl (S1 bv) W2).setCell (p := ⟨bv, 2, none⟩) (.inl rfl) (.int .i64 ((n : Int) + (m : Int))))
        exact ⟨L, ⟨((n : Int) - 1), 8, ((n : Int) + (m : Int)), 2, ⟨#[118]⟩⟩, hf.1, (KV.out.set 2 (.int .i64 ((n : Int) + (m : Int)))), noFit_alone OK.out (al_false hn7 (by simp only; omega)), hf.2⟩
      · go_wp2_with fail
        go_meet
        have hf := HFR.out _ ((Fr.refl (S1 bv) W2).setCell (p := ⟨bv, 3, none⟩) (.inl rfl) (.int .i64 (4096 + (m : Int))))
        exact ⟨L, ⟨((n : Int) - 1), 8, 0, (4096 + (m : Int)), ⟨#[118]⟩⟩, hf.1, (KV.out.set 3 (.int .i64 (4096 + (m : Int)))), noFit_alone OK.out (al_false hn7 (by simp only; omega)), hf.2⟩
      · go_wp2_with fail
        go_meet
        have hf := HFR.out _ ((Fr.refl (S1 bv) W2).setCell (p := ⟨bv, 3, none⟩) (.inl rfl) (.int .i64 (-1 - (m : Int))))
        exact ⟨L, ⟨((n : Int) - 1), 8, 0, (-1 - (m : Int)), ⟨#[118]⟩⟩, hf.1, (KV.out.set 3 (.int .i64 (-1 - (m : Int)))), noFit_alone OK.out (al_false hn7 (by simp only; omega)), hf.2⟩
      · obtain ⟨RP, hRP⟩ : ∃ RP : ByteArray, RP = ⟨(Lib.repeatL (⟨#[118]⟩ : ByteArray).data.toList 65537).toArray⟩ := ⟨_, rfl⟩
        have hRPs : RP.size = 65537 := by rw [hRP]; exact rep_size
        have HRP := Lib.hid hRP
        have HRS := Lib.hid hRPs
        clear hRP hRPs
        go_wp2_with (go_at_call 30; refine (Tryz.strings_Repeat ⟨#[118]⟩ 65537 _ (by decide) (by decide)).mono ?_; rw [← HRP.out]; rintro e w5 ⟨rfl, b5⟩; have v4 := bcell b5 v4; have K5 := Lib.hid (KV.out.fr (Fr.of_below b5 : Fr S0 _ _) (fun h => h)); have z4 := K5.out.frozen 4; have F5 := Lib.hid (Fr.of_below b5 : Fr (S1 bv) _ _); clear b5)
        go_meet
        have hf := HFR.out _ (F5.out.setCell (p := ⟨bv, 4, none⟩) (.inl rfl) (.string RP))
        exact ⟨L, ⟨((n : Int) - 1), 8, 0, 2, RP⟩, hf.1, K5.out.set 4 (.string RP), noFit_alone OK.out (al_false hn7 (by have := HRS.out; simp only; omega)), hf.2⟩
      · have hL40 := OK.out.len
        have hmt : (m : Int).tmod 2 = ((m % 2 : Nat) : Int) := by rw [Int.tmod_eq_emod_of_nonneg (by omega)]; omega
        obtain ⟨dd, hdd⟩ : ∃ dd : Nat, dd = m % n := ⟨_, rfl⟩
        have hmd : (m : Int).tmod (n : Int) = (dd : Int) := remN m n dd (by rw [hdd]; exact (Int.natCast_emod m n).symm)
        have hn0 : ¬ n = 0 := by omega
        clear hdd
        go_upto_region 6 with (first
          | (at_builtin; refine wpList_append_own_at _ rfl _ _ 22 rfl W.heap.size 35 i0 (vtV ⟨0, 0, 0, 0, ⟨#[]⟩⟩) 5 48 Tryz.underlying22 HI.out HZ0.out HZ1.out HZ2.out rfl (by decide) _ _ _ rfl (World.ownsRow.alloc R2.out _) ⟨W2.heap.size, 0, none⟩ 1 1 [.int .i64 ((n : Int) - 1), .int .i64 8, .int .i64 0, .int .i64 2, .string ⟨#[118]⟩] rfl rfl (cells_new _ _ _) (by simp [Value.oneCell']) (by unfold maxLen; omega) (by omega) (by simp; have := B2.out.size; omega) ?_; intro v9 w9 hown' hgrow _ hoa; have HOWN := Lib.hid hown'; have HGR := Lib.hid hgrow; have HOA := Lib.hid hoa; clear hown' hgrow hoa))
        have hbvl := KV.out.lt
        have bl9 := box_below W2 (.cells #[.int .i64 ((n : Int) - 1), .int .i64 8, .int .i64 0, .int .i64 2, .string ⟨#[118]⟩] 35)
        have f9 : Fr (fun i => vo.ownBlock = some i) (W2.alloc (.cells #[.int .i64 ((n : Int) - 1), .int .i64 8, .int .i64 0, .int .i64 2, .string ⟨#[118]⟩] 35)) w9 := Fr.of_grown HGR.out (fun i e => e)
        have C9 := Lib.hid (Fr.upB (bchain B2.out bl9) f9 (fun i e => by have := hown i e; omega))
        have K9 := Lib.hid ((KV.out.alloc (.cells #[.int .i64 ((n : Int) - 1), .int .i64 8, .int .i64 0, .int .i64 2, .string ⟨#[118]⟩] 35)).fr f9 (fun e => by have := hown bv e; omega))
        have RW9 : Hid (VtRow w9 W.heap.size v9 (L ++ [baseV n])) := by
          unfold VtRow Hid
          rw [List.length_append]
          have e1 : flat encVt (L ++ [baseV n]) = flat encVt L ++ [.int .i64 ((n : Int) - 1), .int .i64 8, .int .i64 0, .int .i64 2, .string ⟨#[118]⟩] := by unfold flat; rw [List.flatMap_append]; rfl
          rw [e1]
          exact HOWN.out
        have hown9 : ∀ g, v9.ownBlock = some g → g ≠ bv := fun g hg e => by
          rw [e] at hg
          rcases HOA.out with h | h
          · rw [h] at hg; have := hown bv hg; omega
          · rw [h, World.size_alloc] at hg; cases hg; omega
        have hfr9 : ∀ W' : World, Fr (S1 bv) w9 W' → VtRow W' W.heap.size v9 (L ++ [baseV n]) ∧ Below W.heap.size W W' := fun W' f => ⟨VtRow.fr RW9.out f (fun g hg e => hown9 g hg e), Fr.upB C9.out f (fun i e => by have e : i = bv := e; omega)⟩
        have HFR9 := Lib.hid hfr9
        clear v0 v1 v2 v3 v4 z0 z1 z2 z3 z4 hfr9 bl9 f9 HOA HGR HOWN
        have v1 := K9.out.cell (i := 1) (v := .int .i64 8) rfl
        have v2 := K9.out.cell (i := 2) (v := .int .i64 0) rfl
        have v4 := K9.out.cell (i := 4) (v := .string ⟨#[118]⟩) rfl
        have z1 := K9.out.frozen 1
        have z2 := K9.out.frozen 2
        have z4 := K9.out.frozen 4
        have hm2 : m % 2 = 0 ∨ m % 2 = 1 := by omega
        rcases hm2 with h2 | h2
        · rw [h2] at hmt
          clear h2
          go_wp2_with fail
          go_meet
          have hf := HFR9.out _ ((Fr.refl (S1 bv) w9).setCell (p := ⟨bv, 4, none⟩) (.inl rfl) (.string ⟨#[119]⟩))
          exact ⟨L ++ [baseV n], ⟨(n : Int) - 1, 8, 0, 2, ⟨#[119]⟩⟩, hf.1, K9.out.set 4 (.string ⟨#[119]⟩), noFit_w hn7 OK.out, hf.2⟩
        · rw [h2] at hmt
          clear h2
          go_upto_region 8 with fail
          go_region_held3 (fun _ => True)
            (first | trivial | go_keep)
            (first | fail)
          all_goals go_wp2_with fail
          all_goals go_meet
          all_goals first
            | exact ⟨L ++ [baseV n], ⟨(n : Int) - 1, 7, (dd : Int), 2, ⟨#[118]⟩⟩, (HFR9.out _ (((((Fr.refl (S1 bv) w9).setCell (p := ⟨bv, 4, none⟩) (.inl rfl) (.string ⟨#[119]⟩)).setCell (p := ⟨bv, 4, none⟩) (.inl rfl) (.string ⟨#[118]⟩)).setCell (p := ⟨bv, 1, none⟩) (.inl rfl) (.int .i64 7)).setCell (p := ⟨bv, 2, none⟩) (.inl rfl) (.int .i64 (dd : Int))).drew).1, ((((K9.out.set 4 (.string ⟨#[119]⟩)).set 4 (.string ⟨#[118]⟩)).set 1 (.int .i64 7)).set 2 (.int .i64 (dd : Int))), noFit_d hn7 OK.out, (HFR9.out _ (((((Fr.refl (S1 bv) w9).setCell (p := ⟨bv, 4, none⟩) (.inl rfl) (.string ⟨#[119]⟩)).setCell (p := ⟨bv, 4, none⟩) (.inl rfl) (.string ⟨#[118]⟩)).setCell (p := ⟨bv, 1, none⟩) (.inl rfl) (.int .i64 7)).setCell (p := ⟨bv, 2, none⟩) (.inl rfl) (.int .i64 (dd : Int))).drew).2⟩
            | exact ⟨L ++ [baseV n], ⟨(n : Int) - 1, 7, (dd : Int), 2, ⟨#[118]⟩⟩, (HFR9.out _ (((((Fr.refl (S1 bv) w9).setCell (p := ⟨bv, 4, none⟩) (.inl rfl) (.string ⟨#[119]⟩)).setCell (p := ⟨bv, 1, none⟩) (.inl rfl) (.int .i64 7)).setCell (p := ⟨bv, 2, none⟩) (.inl rfl) (.int .i64 (dd : Int))).setCell (p := ⟨bv, 4, none⟩) (.inl rfl) (.string ⟨#[118]⟩)).drew).1, ((((K9.out.set 4 (.string ⟨#[119]⟩)).set 1 (.int .i64 7)).set 2 (.int .i64 (dd : Int))).set 4 (.string ⟨#[118]⟩)), noFit_d hn7 OK.out, (HFR9.out _ (((((Fr.refl (S1 bv) w9).setCell (p := ⟨bv, 4, none⟩) (.inl rfl) (.string ⟨#[119]⟩)).setCell (p := ⟨bv, 1, none⟩) (.inl rfl) (.int .i64 7)).setCell (p := ⟨bv, 2, none⟩) (.inl rfl) (.int .i64 (dd : Int))).setCell (p := ⟨bv, 4, none⟩) (.inl rfl) (.string ⟨#[118]⟩)).drew).2⟩
  case rest =>
  obtain ⟨L', ⟨xn, xr, xd, xs, xv⟩, hrow, hkv, hnf, hB⟩ := hcut
  obtain ⟨w3, rfl⟩ : ∃ w3 : World, w3 = wc := ⟨_, rfl⟩
  have ROW := Lib.hid hrow
  have KX : Hid (Blk w3 bv 35 #[.int .i64 xn, .int .i64 xr, .int .i64 xd, .int .i64 xs, .string xv]) := hkv
  have NF := Lib.hid hnf
  have B3 := Lib.hid hB
  have hl41 := hnf.len
  have hl' : L'.length ≤ 1000 := by omega
  obtain ⟨A, hgA, hAO⟩ := poss_gather hn7 hnf.poss
  have HA : Hid ((gwalk n [] [] 0 L').1 = some A) := by rw [Hid, hgA]
  have HBW := Lib.hid (bad_walk hn7 hnf.poss hnf.no)
  have VI := Lib.hid hrow.at
  have hbvl := hkv.lt
  clear hrow hkv hnf hB hgA hAO KV R2 B2 hown hw1 hyT hT8
  have v0 := KX.out.cell (i := 0) (v := .int .i64 xn) rfl
  have v1 := KX.out.cell (i := 1) (v := .int .i64 xr) rfl
  have v2 := KX.out.cell (i := 2) (v := .int .i64 xd) rfl
  have v3 := KX.out.cell (i := 3) (v := .int .i64 xs) rfl
  have v4 := KX.out.cell (i := 4) (v := .string xv) rfl
  go_upto_region 23 with fail
  go_cut [13] (fun va wx => VtRow wx w3.heap.size va (L' ++ [⟨xn, xr, xd, xs, xv⟩, ⟨xn, xr, xd, xs, xv⟩]) ∧ Below w3.heap.size w3 wx)
  case first =>
    refine wp_region_held_drew (S := (fun W => W.cell? ⟨bv, 0, none⟩ = some (.int .i64 xn) ∧ W.cell? ⟨bv, 1, none⟩ = some (.int .i64 xr) ∧ W.cell? ⟨bv, 2, none⟩ = some (.int .i64 xd) ∧ W.cell? ⟨bv, 3, none⟩ = some (.int .i64 xs) ∧ W.cell? ⟨bv, 4, none⟩ = some (.string xv))) (by kernel_rfl) ?_ (fun hHeld => ?_)
    · exact ⟨by assumption, by assumption, by assumption, by assumption, by assumption⟩
    try dsimp only at hHeld
    refine held_yes (i := 0) (some 109) (v := ?_) rfl rfl (by kernel_rfl) (by kernel_rfl) (by kernel_rfl) (fun _ _ _ h => h) (by rfl) ?_ hHeld ?_
    rotate_left
    · (intro w hSw; (try dsimp only at hSw); go_simp; all_goals with_reducible rfl)
    try simp only [Act.put, List.setIfInBounds_toArray, List.set_cons_zero, List.set_cons_succ]
    refine held_yes (i := 2) (some 111) (v := ?_) rfl rfl (by kernel_rfl) (by kernel_rfl) (by kernel_rfl) (fun _ _ _ h => h) (by rfl) ?_ hHeld ?_
    rotate_left
    · (intro w hSw; (try dsimp only at hSw); go_simp; all_goals with_reducible rfl)
    try simp only [Act.put, List.setIfInBounds_toArray, List.set_cons_zero, List.set_cons_succ]
    refine held_yes (i := 3) (some 112) (v := ?_) rfl rfl (by kernel_rfl) (by kernel_rfl) (by kernel_rfl) (fun _ _ _ h => h) (by rfl) ?_ hHeld ?_
    rotate_left
    · (intro w hSw; (try dsimp only at hSw); go_simp; all_goals with_reducible rfl)
    try simp only [Act.put, List.setIfInBounds_toArray, List.set_cons_zero, List.set_cons_succ]
    refine wpAnyH_ready (rs := [1, 4]) (by kernel_rfl) (by simp) ?_
    refine (AllReadyH.cons rfl (fun K' hK' => ?_) (AllReadyH.cons rfl (fun K' hK' => ?_) AllReadyH.nil))
    · go_simp
      (go_at_call 14; refine (clone_any _ L' _ (by first | exact VI.out | exact VI.out.below (box_below w3 _) | exact VI.out.below (Below.drew (box_below w3 _)))  hl').mono ?_; rintro e w5 ⟨vo, rfl, r5, b5⟩; have hz5 : w3.heap.size ≤ w5.heap.size := by { first | exact b5.size | exact Nat.le_trans (box_below w3 _).size b5.size | exact Nat.le_trans (Below.drew (box_below w3 _)).size b5.size }; have hvo5 : ∀ g, vo.ownBlock = some g → w3.heap.size ≤ g := fun g hg => by { have h0 := (World.ownsRow.lt r5 g hg).1; first | exact h0 | exact Nat.le_trans (box_below w3 _).size h0 | exact Nat.le_trans (Below.drew (box_below w3 _)).size h0 }; have v0 : w5.cell? ⟨bv, 0, none⟩ = some (.int .i64 xn) := by { first | exact bcell b5 v0 | exact bcell b5 (bcell (box_below w3 _) v0) | exact bcell b5 (bcell (Below.drew (box_below w3 _)) v0) }; have v1 : w5.cell? ⟨bv, 1, none⟩ = some (.int .i64 xr) := by { first | exact bcell b5 v1 | exact bcell b5 (bcell (box_below w3 _) v1) | exact bcell b5 (bcell (Below.drew (box_below w3 _)) v1) }; have v2 : w5.cell? ⟨bv, 2, none⟩ = some (.int .i64 xd) := by { first | exact bcell b5 v2 | exact bcell b5 (bcell (box_below w3 _) v2) | exact bcell b5 (bcell (Below.drew (box_below w3 _)) v2) }; have v3 : w5.cell? ⟨bv, 3, none⟩ = some (.int .i64 xs) := by { first | exact bcell b5 v3 | exact bcell b5 (bcell (box_below w3 _) v3) | exact bcell b5 (bcell (Below.drew (box_below w3 _)) v3) }; have v4 : w5.cell? ⟨bv, 4, none⟩ = some (.string xv) := by { first | exact bcell b5 v4 | exact bcell b5 (bcell (box_below w3 _) v4) | exact bcell b5 (bcell (Below.drew (box_below w3 _)) v4) }; have RC : Hid (VtRow w5 w3.heap.size vo L') := (by first | exact r5 | exact ownsRow_lower r5 (by simp) | exact ownsRow_lower r5 (by rw [World.size_alloc]; exact Nat.le_succ _) | exact ownsRow_lower r5 (box_below w3 _).size | exact ownsRow_lower r5 (Below.drew (box_below w3 _)).size); have BC : Hid (Below w3.heap.size w3 w5) := by { rw [Hid]; first | exact b5 | exact bchain (Below.drew (Below.refl _ _)) b5 | exact bchain (box_below w3 _) b5 | exact bchain (Below.drew (box_below w3 _)) b5 }; have BC0 := Lib.hid b5; clear r5 b5)
      go_wp2_with fail
      refine hK'.out _ _ ?_ (fun hHeld => ?_)
      · first | exact ⟨by assumption, by assumption, by assumption, by assumption, by assumption⟩ | go_keep
      clear hK' K'
      try dsimp only at hHeld
      try simp only [Act.put, List.setIfInBounds_toArray, List.set_cons_zero, List.set_cons_succ]
      refine wpAnyH_ready (rs := [4]) (by kernel_rfl) (by simp) ?_
      refine (AllReadyH.cons rfl (fun K' hK' => ?_) AllReadyH.nil)
      go_simp
      refine hK'.out _ _ ?_ (fun hHeld => ?_)
      · first | exact ⟨by assumption, by assumption, by assumption, by assumption, by assumption⟩ | go_keep
      clear hK' K'
      try dsimp only at hHeld
      try simp only [Act.put, List.setIfInBounds_toArray, List.set_cons_zero, List.set_cons_succ]
      refine wpAnyH_ready (rs := [5]) (by kernel_rfl) (by simp) ?_
      refine (AllReadyH.cons rfl (fun K' hK' => ?_) AllReadyH.nil)
      first | (refine step_append_lies _ rfl _ _ 22 rfl _ 35 i0 (vtV ⟨0, 0, 0, 0, ⟨#[]⟩⟩) 5 48 Tryz.underlying22 HI.out HZ0.out HZ1.out HZ2.out rfl (by decide) vo _ _ rfl (World.ownsRow.alloc RC.out _) ⟨w5.heap.size, 0, none⟩ 2 2 [.int .i64 xn, .int .i64 xr, .int .i64 xd, .int .i64 xs, .string xv, .int .i64 xn, .int .i64 xr, .int .i64 xd, .int .i64 xs, .string xv] rfl rfl (cells_new _ _ _) (by simp [Value.oneCell']) (by decide) (by unfold maxLen; omega) (by omega) (by first | omega | (rw [World.size_alloc]; omega) | (simp; omega)) _ rfl ?_; intro g cap wa hra hga hoa hla; change K' (Act.put _ (some 114) _) _; have fa : Fr (fun i => vo.ownBlock = some i) _ wa := Fr.of_grown hga (fun i e => e); have v0 := fa.cell (p := ⟨bv, 0, none⟩) (fun e => by have := hvo5 _ e; have e2 : (⟨bv, 0, none⟩ : Addr).block = bv := rfl; omega) (by first | exact v0 | exact bcell (box_below w5 _) v0 | exact bcell (Below.drew (box_below w5 _)) v0); have v1 := fa.cell (p := ⟨bv, 1, none⟩) (fun e => by have := hvo5 _ e; have e2 : (⟨bv, 1, none⟩ : Addr).block = bv := rfl; omega) (by first | exact v1 | exact bcell (box_below w5 _) v1 | exact bcell (Below.drew (box_below w5 _)) v1); have v2 := fa.cell (p := ⟨bv, 2, none⟩) (fun e => by have := hvo5 _ e; have e2 : (⟨bv, 2, none⟩ : Addr).block = bv := rfl; omega) (by first | exact v2 | exact bcell (box_below w5 _) v2 | exact bcell (Below.drew (box_below w5 _)) v2); have v3 := fa.cell (p := ⟨bv, 3, none⟩) (fun e => by have := hvo5 _ e; have e2 : (⟨bv, 3, none⟩ : Addr).block = bv := rfl; omega) (by first | exact v3 | exact bcell (box_below w5 _) v3 | exact bcell (Below.drew (box_below w5 _)) v3); have v4 := fa.cell (p := ⟨bv, 4, none⟩) (fun e => by have := hvo5 _ e; have e2 : (⟨bv, 4, none⟩ : Addr).block = bv := rfl; omega) (by first | exact v4 | exact bcell (box_below w5 _) v4 | exact bcell (Below.drew (box_below w5 _)) v4); have HRA := Lib.hid hra; have FA := Lib.hid fa; clear hra hga hoa hla fa) | (refine step_append_lies _ rfl _ _ 22 rfl _ 35 i0 (vtV ⟨0, 0, 0, 0, ⟨#[]⟩⟩) 5 48 Tryz.underlying22 HI.out HZ0.out HZ1.out HZ2.out rfl (by decide) vo _ _ rfl RC.out ⟨w3.heap.size, 0, none⟩ 2 2 [.int .i64 xn, .int .i64 xr, .int .i64 xd, .int .i64 xs, .string xv, .int .i64 xn, .int .i64 xr, .int .i64 xd, .int .i64 xs, .string xv] rfl rfl (fun j u hu => bcell BC0.out (cells_new w3 _ _ j u hu)) (by simp [Value.oneCell']) (by decide) (by unfold maxLen; omega) (by omega) (by first | omega | (rw [World.size_alloc]; omega) | (simp; omega)) _ rfl ?_; intro g cap wa hra hga hoa hla; change K' (Act.put _ (some 114) _) _; have fa : Fr (fun i => vo.ownBlock = some i) _ wa := Fr.of_grown hga (fun i e => e); have v0 := fa.cell (p := ⟨bv, 0, none⟩) (fun e => by have := hvo5 _ e; have e2 : (⟨bv, 0, none⟩ : Addr).block = bv := rfl; omega) (by first | exact v0 | exact bcell (box_below w5 _) v0 | exact bcell (Below.drew (box_below w5 _)) v0); have v1 := fa.cell (p := ⟨bv, 1, none⟩) (fun e => by have := hvo5 _ e; have e2 : (⟨bv, 1, none⟩ : Addr).block = bv := rfl; omega) (by first | exact v1 | exact bcell (box_below w5 _) v1 | exact bcell (Below.drew (box_below w5 _)) v1); have v2 := fa.cell (p := ⟨bv, 2, none⟩) (fun e => by have := hvo5 _ e; have e2 : (⟨bv, 2, none⟩ : Addr).block = bv := rfl; omega) (by first | exact v2 | exact bcell (box_below w5 _) v2 | exact bcell (Below.drew (box_below w5 _)) v2); have v3 := fa.cell (p := ⟨bv, 3, none⟩) (fun e => by have := hvo5 _ e; have e2 : (⟨bv, 3, none⟩ : Addr).block = bv := rfl; omega) (by first | exact v3 | exact bcell (box_below w5 _) v3 | exact bcell (Below.drew (box_below w5 _)) v3); have v4 := fa.cell (p := ⟨bv, 4, none⟩) (fun e => by have := hvo5 _ e; have e2 : (⟨bv, 4, none⟩ : Addr).block = bv := rfl; omega) (by first | exact v4 | exact bcell (box_below w5 _) v4 | exact bcell (Below.drew (box_below w5 _)) v4); have HRA := Lib.hid hra; have FA := Lib.hid fa; clear hra hga hoa hla fa)
      refine hK'.out _ _ ?_ (fun hHeld => ?_)
      · first | exact ⟨by assumption, by assumption, by assumption, by assumption, by assumption⟩ | go_keep
      clear hK' K'
      try dsimp only at hHeld
      try simp only [Act.put, List.setIfInBounds_toArray, List.set_cons_zero, List.set_cons_succ]
      refine held_yes (i := 6) (some 13) (v := ?_) rfl rfl (by kernel_rfl) (by kernel_rfl) (by kernel_rfl) (fun _ _ _ h => h) (by rfl) ?_ hHeld ?_
      rotate_left
      · (intro w hSw; (try dsimp only at hSw); go_simp; all_goals with_reducible rfl)
      try simp only [Act.put, List.setIfInBounds_toArray, List.set_cons_zero, List.set_cons_succ]
      refine wpAnyH_done (by kernel_rfl) ?_ _
      (go_wp2_with fail; go_meet; first | exact ⟨row_two HRA.out, Fr.upB BC.out FA.out (fun i e => hvo5 i e)⟩ | exact ⟨row_two HRA.out, Fr.upB (bchain BC.out (box_below w5 _)) FA.out (fun i e => hvo5 i e)⟩ | exact ⟨row_two HRA.out, Fr.upB (bchain BC.out (Below.drew (box_below w5 _))) FA.out (fun i e => hvo5 i e)⟩)
    · go_simp
      refine hK'.out _ _ ?_ (fun hHeld => ?_)
      · first | exact ⟨by assumption, by assumption, by assumption, by assumption, by assumption⟩ | go_keep
      clear hK' K'
      try dsimp only at hHeld
      try simp only [Act.put, List.setIfInBounds_toArray, List.set_cons_zero, List.set_cons_succ]
      refine wpAnyH_ready (rs := [1]) (by kernel_rfl) (by simp) ?_
      refine (AllReadyH.cons rfl (fun K' hK' => ?_) AllReadyH.nil)
      go_simp
      (go_at_call 14; refine (clone_any _ L' _ (by first | exact VI.out | exact VI.out.below (box_below w3 _) | exact VI.out.below (Below.drew (box_below w3 _)))  hl').mono ?_; rintro e w5 ⟨vo, rfl, r5, b5⟩; have hz5 : w3.heap.size ≤ w5.heap.size := by { first | exact b5.size | exact Nat.le_trans (box_below w3 _).size b5.size | exact Nat.le_trans (Below.drew (box_below w3 _)).size b5.size }; have hvo5 : ∀ g, vo.ownBlock = some g → w3.heap.size ≤ g := fun g hg => by { have h0 := (World.ownsRow.lt r5 g hg).1; first | exact h0 | exact Nat.le_trans (box_below w3 _).size h0 | exact Nat.le_trans (Below.drew (box_below w3 _)).size h0 }; have v0 : w5.cell? ⟨bv, 0, none⟩ = some (.int .i64 xn) := by { first | exact bcell b5 v0 | exact bcell b5 (bcell (box_below w3 _) v0) | exact bcell b5 (bcell (Below.drew (box_below w3 _)) v0) }; have v1 : w5.cell? ⟨bv, 1, none⟩ = some (.int .i64 xr) := by { first | exact bcell b5 v1 | exact bcell b5 (bcell (box_below w3 _) v1) | exact bcell b5 (bcell (Below.drew (box_below w3 _)) v1) }; have v2 : w5.cell? ⟨bv, 2, none⟩ = some (.int .i64 xd) := by { first | exact bcell b5 v2 | exact bcell b5 (bcell (box_below w3 _) v2) | exact bcell b5 (bcell (Below.drew (box_below w3 _)) v2) }; have v3 : w5.cell? ⟨bv, 3, none⟩ = some (.int .i64 xs) := by { first | exact bcell b5 v3 | exact bcell b5 (bcell (box_below w3 _) v3) | exact bcell b5 (bcell (Below.drew (box_below w3 _)) v3) }; have v4 : w5.cell? ⟨bv, 4, none⟩ = some (.string xv) := by { first | exact bcell b5 v4 | exact bcell b5 (bcell (box_below w3 _) v4) | exact bcell b5 (bcell (Below.drew (box_below w3 _)) v4) }; have RC : Hid (VtRow w5 w3.heap.size vo L') := (by first | exact r5 | exact ownsRow_lower r5 (by simp) | exact ownsRow_lower r5 (by rw [World.size_alloc]; exact Nat.le_succ _) | exact ownsRow_lower r5 (box_below w3 _).size | exact ownsRow_lower r5 (Below.drew (box_below w3 _)).size); have BC : Hid (Below w3.heap.size w3 w5) := by { rw [Hid]; first | exact b5 | exact bchain (Below.drew (Below.refl _ _)) b5 | exact bchain (box_below w3 _) b5 | exact bchain (Below.drew (box_below w3 _)) b5 }; have BC0 := Lib.hid b5; clear r5 b5)
      go_wp2_with fail
      refine hK'.out _ _ ?_ (fun hHeld => ?_)
      · first | exact ⟨by assumption, by assumption, by assumption, by assumption, by assumption⟩ | go_keep
      clear hK' K'
      try dsimp only at hHeld
      try simp only [Act.put, List.setIfInBounds_toArray, List.set_cons_zero, List.set_cons_succ]
      refine wpAnyH_ready (rs := [5]) (by kernel_rfl) (by simp) ?_
      refine (AllReadyH.cons rfl (fun K' hK' => ?_) AllReadyH.nil)
      first | (refine step_append_lies _ rfl _ _ 22 rfl _ 35 i0 (vtV ⟨0, 0, 0, 0, ⟨#[]⟩⟩) 5 48 Tryz.underlying22 HI.out HZ0.out HZ1.out HZ2.out rfl (by decide) vo _ _ rfl (World.ownsRow.alloc RC.out _) ⟨w5.heap.size, 0, none⟩ 2 2 [.int .i64 xn, .int .i64 xr, .int .i64 xd, .int .i64 xs, .string xv, .int .i64 xn, .int .i64 xr, .int .i64 xd, .int .i64 xs, .string xv] rfl rfl (cells_new _ _ _) (by simp [Value.oneCell']) (by decide) (by unfold maxLen; omega) (by omega) (by first | omega | (rw [World.size_alloc]; omega) | (simp; omega)) _ rfl ?_; intro g cap wa hra hga hoa hla; change K' (Act.put _ (some 114) _) _; have fa : Fr (fun i => vo.ownBlock = some i) _ wa := Fr.of_grown hga (fun i e => e); have v0 := fa.cell (p := ⟨bv, 0, none⟩) (fun e => by have := hvo5 _ e; have e2 : (⟨bv, 0, none⟩ : Addr).block = bv := rfl; omega) (by first | exact v0 | exact bcell (box_below w5 _) v0 | exact bcell (Below.drew (box_below w5 _)) v0); have v1 := fa.cell (p := ⟨bv, 1, none⟩) (fun e => by have := hvo5 _ e; have e2 : (⟨bv, 1, none⟩ : Addr).block = bv := rfl; omega) (by first | exact v1 | exact bcell (box_below w5 _) v1 | exact bcell (Below.drew (box_below w5 _)) v1); have v2 := fa.cell (p := ⟨bv, 2, none⟩) (fun e => by have := hvo5 _ e; have e2 : (⟨bv, 2, none⟩ : Addr).block = bv := rfl; omega) (by first | exact v2 | exact bcell (box_below w5 _) v2 | exact bcell (Below.drew (box_below w5 _)) v2); have v3 := fa.cell (p := ⟨bv, 3, none⟩) (fun e => by have := hvo5 _ e; have e2 : (⟨bv, 3, none⟩ : Addr).block = bv := rfl; omega) (by first | exact v3 | exact bcell (box_below w5 _) v3 | exact bcell (Below.drew (box_below w5 _)) v3); have v4 := fa.cell (p := ⟨bv, 4, none⟩) (fun e => by have := hvo5 _ e; have e2 : (⟨bv, 4, none⟩ : Addr).block = bv := rfl; omega) (by first | exact v4 | exact bcell (box_below w5 _) v4 | exact bcell (Below.drew (box_below w5 _)) v4); have HRA := Lib.hid hra; have FA := Lib.hid fa; clear hra hga hoa hla fa) | (refine step_append_lies _ rfl _ _ 22 rfl _ 35 i0 (vtV ⟨0, 0, 0, 0, ⟨#[]⟩⟩) 5 48 Tryz.underlying22 HI.out HZ0.out HZ1.out HZ2.out rfl (by decide) vo _ _ rfl RC.out ⟨w3.heap.size, 0, none⟩ 2 2 [.int .i64 xn, .int .i64 xr, .int .i64 xd, .int .i64 xs, .string xv, .int .i64 xn, .int .i64 xr, .int .i64 xd, .int .i64 xs, .string xv] rfl rfl (fun j u hu => bcell BC0.out (cells_new w3 _ _ j u hu)) (by simp [Value.oneCell']) (by decide) (by unfold maxLen; omega) (by omega) (by first | omega | (rw [World.size_alloc]; omega) | (simp; omega)) _ rfl ?_; intro g cap wa hra hga hoa hla; change K' (Act.put _ (some 114) _) _; have fa : Fr (fun i => vo.ownBlock = some i) _ wa := Fr.of_grown hga (fun i e => e); have v0 := fa.cell (p := ⟨bv, 0, none⟩) (fun e => by have := hvo5 _ e; have e2 : (⟨bv, 0, none⟩ : Addr).block = bv := rfl; omega) (by first | exact v0 | exact bcell (box_below w5 _) v0 | exact bcell (Below.drew (box_below w5 _)) v0); have v1 := fa.cell (p := ⟨bv, 1, none⟩) (fun e => by have := hvo5 _ e; have e2 : (⟨bv, 1, none⟩ : Addr).block = bv := rfl; omega) (by first | exact v1 | exact bcell (box_below w5 _) v1 | exact bcell (Below.drew (box_below w5 _)) v1); have v2 := fa.cell (p := ⟨bv, 2, none⟩) (fun e => by have := hvo5 _ e; have e2 : (⟨bv, 2, none⟩ : Addr).block = bv := rfl; omega) (by first | exact v2 | exact bcell (box_below w5 _) v2 | exact bcell (Below.drew (box_below w5 _)) v2); have v3 := fa.cell (p := ⟨bv, 3, none⟩) (fun e => by have := hvo5 _ e; have e2 : (⟨bv, 3, none⟩ : Addr).block = bv := rfl; omega) (by first | exact v3 | exact bcell (box_below w5 _) v3 | exact bcell (Below.drew (box_below w5 _)) v3); have v4 := fa.cell (p := ⟨bv, 4, none⟩) (fun e => by have := hvo5 _ e; have e2 : (⟨bv, 4, none⟩ : Addr).block = bv := rfl; omega) (by first | exact v4 | exact bcell (box_below w5 _) v4 | exact bcell (Below.drew (box_below w5 _)) v4); have HRA := Lib.hid hra; have FA := Lib.hid fa; clear hra hga hoa hla fa)
      refine hK'.out _ _ ?_ (fun hHeld => ?_)
      · first | exact ⟨by assumption, by assumption, by assumption, by assumption, by assumption⟩ | go_keep
      clear hK' K'
      try dsimp only at hHeld
      try simp only [Act.put, List.setIfInBounds_toArray, List.set_cons_zero, List.set_cons_succ]
      refine held_yes (i := 6) (some 13) (v := ?_) rfl rfl (by kernel_rfl) (by kernel_rfl) (by kernel_rfl) (fun _ _ _ h => h) (by rfl) ?_ hHeld ?_
      rotate_left
      · (intro w hSw; (try dsimp only at hSw); go_simp; all_goals with_reducible rfl)
      try simp only [Act.put, List.setIfInBounds_toArray, List.set_cons_zero, List.set_cons_succ]
      refine wpAnyH_done (by kernel_rfl) ?_ _
      (go_wp2_with fail; go_meet; first | exact ⟨row_two HRA.out, Fr.upB BC.out FA.out (fun i e => hvo5 i e)⟩ | exact ⟨row_two HRA.out, Fr.upB (bchain BC.out (box_below w5 _)) FA.out (fun i e => hvo5 i e)⟩ | exact ⟨row_two HRA.out, Fr.upB (bchain BC.out (Below.drew (box_below w5 _))) FA.out (fun i e => hvo5 i e)⟩)
  case rest =>
  obtain ⟨hrow2, hB4⟩ := hcut
  obtain ⟨w4, rfl⟩ : ∃ w4 : World, w4 = wc := ⟨_, rfl⟩
  have V4 := Lib.hid hrow2.at
  have W4 := Lib.hid (VI.out.below hB4)
  have B4 := Lib.hid (bchain B3.out hB4)
  obtain ⟨Aa, capa, rfl, hca, hma, _⟩ := W4.out
  have hmla : capa ≤ 9223372036854775807 := by unfold maxLen at hma; omega
  have hlb : (L' ++ [⟨xn, xr, xd, xs, xv⟩, ⟨xn, xr, xd, xs, xv⟩] : List Vt).length ≤ 1000 := by simp; omega
  have HB1 : Hid ((gwalk n [] [] 0 (L' ++ [⟨xn, xr, xd, xs, xv⟩, ⟨xn, xr, xd, xs, xv⟩])).1 = none) := by rw [Hid, HBW.out]
  clear hrow2 hB4 v0 v1 v2 v3 v4 VI B3 KX ROW hma
  generalize (L' ++ [⟨xn, xr, xd, xs, xv⟩, ⟨xn, xr, xd, xs, xv⟩] : List Vt) = LB at *
  go_upto_region 25 with (go_at_call 15; refine (check_bad n _ LB _ V4.out hn7 hlb HBW.out).mono ?_; rintro e w5 ⟨rfl, b5⟩; have V5 := Lib.hid (V4.out.below b5); have W5 := Lib.hid (W4.out.below b5); have B5 := Lib.hid (bchain B4.out b5); clear b5)
  clear V4 W4 B4
  go_upto_region 26 with (go_at_call 17; refine (chosen_any n _ LB 0 _ V5.out hn7 hlb).mono ?_; rw [chosenF_bad HB1.out]; rintro e w6 ⟨rfl, b5⟩; have V6 := Lib.hid (V5.out.below b5); have W6 := Lib.hid (W5.out.below b5); have B6 := Lib.hid (bchain B5.out b5); clear b5)
  clear V5 W5 B5
  go_upto_region 27 with (go_at_call 19; refine (all_bad n _ LB _ V6.out hn7 hlb HB1.out).mono ?_; rintro e w7 ⟨rfl, b5⟩; have V7 := Lib.hid (V6.out.below b5); have W7 := Lib.hid (W6.out.below b5); have B7 := Lib.hid (bchain B6.out b5); clear b5)
  clear V6 W6 B6
  go_upto_region 28 with (go_at_call 21; refine (agree_any n _ LB _ V7.out hn7 hlb).mono ?_; rw [agreeF_bad HB1.out]; rintro e w8 ⟨rfl, b5⟩; have V8 := Lib.hid (V7.out.below b5); have W8 := Lib.hid (W7.out.below b5); have B8 := Lib.hid (bchain B7.out b5); clear b5)
  clear V7 W7 B7
  have hbb1 : ∀ w : World, (Instr.build 24 #[(0, .int .i64 1)]).run Tryz.prog w = .ok (balV 1 0) w := fun w => bldBal1 1 w
  have hgn : ∀ (W1 W2 : World), VotesIn W1 u13 LB → Below W1.heap.size W1 W2 → Calls Tryz.prog 33 #[u13, .int .i64 (n : Int)] W2 fun e w2 => e = .returned (.tuple #[.map none, .int .i64 (L'.length : Int), .int .i64 2]) ∧ Below W2.heap.size W2 w2 := fun W1 W2 hv hb => by
    have := gather_none W2 (hv.below hb) hn7 hlb HB1.out
    rw [HBW.out] at this
    exact this
  have HGN := Lib.hid hgn
  clear hgn
  go_upto_region 29 with (go_at_call 10; refine (safe_no n _ 1 0 0 (L'.length : Int) ⟨#[]⟩ _ (fun w' hb => HGN.out _ w' V8.out hb)).mono ?_; rintro e w9 ⟨rfl, b5⟩; have V9 := Lib.hid (V8.out.below b5); have W9 := Lib.hid (W8.out.below b5); have B9 := Lib.hid (bchain B8.out b5); clear b5)
  clear V8 W8 B8
  go_upto_region 30 with (go_at_call 12; refine (highest_no n _ 1 0 (L'.length : Int) _ (fun w' hb => HGN.out _ w' V9.out hb)).mono ?_; rintro e w10 ⟨rfl, b5⟩; have W10 := Lib.hid (W9.out.below b5); have B10 := Lib.hid (bchain B9.out b5); clear b5)
  have bw := box_below w10 (.cells #[.int .i64 0, .int .i64 0, .int .i64 0, .int .i64 0, .string ⟨#[]⟩] 35)
  have WB := Lib.hid (W10.out.below bw)
  have BB := Lib.hid (bchain B10.out bw)
  generalize (w10.alloc (.cells #[.int .i64 0, .int .i64 0, .int .i64 0, .int .i64 0, .string ⟨#[]⟩] 35)) = WZ at *
  clear bw V9 W9 B9 W10 B10 HGN
  obtain ⟨Q, hQ⟩ : ∃ Q : Nat, Q = 2 ^ n := ⟨_, rfl⟩
  have hqb : Q ≤ 128 ∧ ((Q : Int) / 2 ^ n != 0) = true ∧ (((1 : Nat) : Int) / 2 ^ n != 0) = false := by
    rcases (show n = 1 ∨ n = 2 ∨ n = 3 ∨ n = 4 ∨ n = 5 ∨ n = 6 ∨ n = 7 by omega) with h | h | h | h | h | h | h <;> subst h <;> subst hQ <;> decide
  have HQ := Lib.hid hqb.2.1
  have HQ1 := Lib.hid hqb.2.2
  have hQle := hqb.1
  have hQc : (2 : Int) ^ n = (Q : Int) := by rw [hQ]; simp
  have hmin : min n 64 = n := by omega
  have hsh : IntKind.u64.wrap (2 ^ n) = (Q : Int) := by rw [hQc, IntKind.wrap_u64]; omega
  have hs4 : (decide ((4096 : Int) + (m : Int) ≥ 0) && decide ((4096 : Int) + (m : Int) < 4096)) = false := by simp; omega
  have HS4 := Lib.hid hs4
  have hsm : (decide ((-1 : Int) - (m : Int) ≥ 0) && decide ((-1 : Int) - (m : Int) < 4096)) = false := by simp; omega
  have HSM := Lib.hid hsm
  have hw4 : IntKind.i64.wrap ((4096 : Int) + (m : Int)) = (4096 : Int) + (m : Int) := by rw [IntKind.wrap_i64]; omega
  have hw8 : IntKind.i64.wrap ((8 : Int) + (m : Int)) = (8 : Int) + (m : Int) := by rw [IntKind.wrap_i64]; omega
  have hwk : IntKind.i64.wrap ((n : Int) + (m : Int)) = (n : Int) + (m : Int) := by rw [IntKind.wrap_i64]; omega
  have hw0 : IntKind.i64.wrap ((-1 : Int) - (m : Int)) = (-1 : Int) - (m : Int) := by rw [IntKind.wrap_i64]; omega
  have hz1 : ∀ d : Int, ((1 : Int) == 0 && d == 0) = false := fun d => rfl
  have HZ := Lib.hid hz1
  have hbb2 : ∀ w : World, (Instr.build 24 #[(0, .int .i64 1), (1, .int .i64 ((n : Int) + (m : Int)))]).run Tryz.prog w = .ok (balV 1 ((n : Int) + (m : Int))) w := fun w => bldBal 1 _ w
  clear hqb hQ hQc hQle hs4 hsm hz1
  go_upto_region 32 with fail
  go_upto_region 33 with (go_at_call 12; refine (highest_arg n Q _ L' A 0 _ WB.out hn7 hl' HA.out HQ.out).mono ?_; rintro e w11 ⟨rfl, b5⟩; have W11 := Lib.hid (WB.out.below b5); have B11 := Lib.hid (bchain BB.out b5); clear b5)
  have bw := box_below w11 (.cells #[.int .i64 0, .int .i64 0, .int .i64 0, .int .i64 0, .string ⟨#[]⟩] 35)
  have WB2 := Lib.hid (W11.out.below bw)
  have BB2 := Lib.hid (bchain B11.out bw)
  generalize (w11.alloc (.cells #[.int .i64 0, .int .i64 0, .int .i64 0, .int .i64 0, .string ⟨#[]⟩] 35)) = WY at *
  clear bw WB BB W11 B11
  go_upto_region 34 with (go_at_call 12; refine (highest_range n 1 _ L' A (4096 + (m : Int)) _ WB2.out hn7 hl' HA.out HQ1.out HS4.out).mono ?_; rintro e w12 ⟨rfl, b5⟩; have W12 := Lib.hid (WB2.out.below b5); have B12 := Lib.hid (bchain BB2.out b5); clear b5)
  have bw := box_below w12 (.cells #[.int .i64 0, .int .i64 0, .int .i64 0, .int .i64 0, .string ⟨#[]⟩] 35)
  have WB3 := Lib.hid (W12.out.below bw)
  have BB3 := Lib.hid (bchain B12.out bw)
  generalize (w12.alloc (.cells #[.int .i64 0, .int .i64 0, .int .i64 0, .int .i64 0, .string ⟨#[]⟩] 35)) = WX at *
  clear bw WB2 BB2 W12 B12
  go_upto_region 35 with (go_at_call 10; refine (safe_arg n _ L' A 1 ((n : Int) + (m : Int)) 0 ⟨#[]⟩ _ WB3.out hn7 hl' HA.out (HZ.out _) (chkBig hn7)).mono ?_; rintro e w13 ⟨rfl, b5⟩; have W13 := Lib.hid (WB3.out.below b5); have B13 := Lib.hid (bchain BB3.out b5); clear b5)
  clear WB3 BB3
  go_upto_region 36 with (go_at_call 10; refine (safe_range n _ L' A 1 0 ((-1 : Int) - (m : Int)) ⟨#[]⟩ _ W13.out hn7 hl' HA.out (HZ.out _) (chk1 hn7) HSM.out).mono ?_; rintro e w14 ⟨rfl, b5⟩; have W14 := Lib.hid (W13.out.below b5); have B14 := Lib.hid (bchain B13.out b5); clear b5)
  clear W13 B13
  go_upto_region 37 with (go_at_call 17; refine (chosen_any n _ L' (4096 + (m : Int)) _ W14.out hn7 hl').mono ?_; rw [chosenF_range HA.out HS4.out]; rintro e w15 ⟨rfl, b5⟩; have W15 := Lib.hid (W14.out.below b5); have B15 := Lib.hid (bchain B14.out b5); clear b5)
  clear W14 B14
  go_upto_region 38 with (go_at_call 15; refine (check_no (8 + (m : Int)) _ L' _ W15.out (by omega)).mono ?_; rintro e w16 ⟨rfl, b5⟩; have B16 := Lib.hid (bchain B15.out b5); clear b5)
  clear W15 B15
  go_wp2_with (go_at_call 8; refine (HW.out _).mono ?_; rintro e w17 ⟨rfl, b5⟩; have B17 := Lib.hid (bchain B16.out b5); clear b5)
  go_returns
  exact ⟨rfl, B17.out⟩
end Go.Proofs.YthkdmpalhdifbaaGreatDoor.chosenRefuses
