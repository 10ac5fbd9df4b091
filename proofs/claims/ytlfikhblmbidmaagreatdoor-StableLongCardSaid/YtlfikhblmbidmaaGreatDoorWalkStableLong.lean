/- The walk of skaldlaw17.StableLong: it returns true, and writes nothing that was there. -/
import Derived.Test.YtlfikhblmbidmaaGreatDoorTabF
import Derived.Test.YtlfikhblmbidmaaGreatDoorRefuW
import Derived.Test.YtlfikhblmbidmaaGreatDoorStbG
import Derived.Test.YtlfikhblmbidmaaGreatDoorLongP
import Derived.OpenShut
import Derived.Deep.DeepCutAuto
import Derived.Deep.CutBlock
import Derived.Deep.LoopGhost
import Derived.Deep.RegionHeld3
set_option linter.unusedVariables false
set_option linter.unusedSimpArgs false
namespace Go.Proofs.YtlfikhblmbidmaaGreatDoor.stableLong
open Go.RowKit Go.Shelf
theorem of_nat {a : Int} (h : (Lit.int .u8 a).wf = true) : 0 ≤ a ∧ a < 256 := by
  simp [Lit.wf, IntKind.min, IntKind.max, IntKind.signed, IntKind.bits] at h
  omega
def rep (b : UInt8) (c : Nat) : ByteArray := ⟨(Lib.repeatL (⟨#[b]⟩ : ByteArray).data.toList c).toArray⟩
theorem rep_size (b : UInt8) (c : Nat) : (rep b c).size = c := by
  show (Lib.repeatL [b] c).toArray.size = c
  rw [List.size_toArray, Lib.repeatL_length]
  simp
theorem rep_len (b : UInt8) (c : Nat) : (rep b c).data.toList.length = c := by
  have := rep_size b c
  simpa using this
theorem u3 {c : Nat} (h1 : 16384 ≤ c) (h2 : c < 2097152) : (uintB c).length = 3 := by
  rw [uintB_ge (by omega), uintB_ge (by omega), uintB_lt (by omega)]
  rfl
theorem u_2p30 : (uintB 1073741824).length = 5 := by
  rw [uintB_ge (by decide), uintB_ge (by decide), uintB_ge (by decide), uintB_ge (by decide), uintB_lt (by decide)]
  rfl
theorem u_4095 : (uintB 4095).length = 2 := by
  rw [uintB_ge (by decide), uintB_lt (by decide)]
  rfl
theorem len_acc {c : Nat} (h1 : 16384 ≤ c) (h2 : c < 2097152) : (valB [2, 1073741824, 6, 4095] (rep 118 c)).length = 12 + c := by
  have hr := rep_len 118 c
  simp only [valB, uintsB, List.flatMap_cons, List.flatMap_nil, List.length_append, textB, hr, u3 h1 h2, u_2p30, u_4095, List.append_nil, uintB_lt (show 2 < 128 by decide), uintB_lt (show 6 < 128 by decide), List.length_cons, List.length_nil]
  omega
theorem len_cho {c : Nat} (h1 : 16384 ≤ c) (h2 : c < 2097152) : (valB [3, 4095] (rep 118 c)).length = 6 + c := by
  have hr := rep_len 118 c
  simp only [valB, uintsB, List.flatMap_cons, List.flatMap_nil, List.length_append, textB, hr, u3 h1 h2, u_4095, List.append_nil, uintB_lt (show 3 < 128 by decide), List.length_cons, List.length_nil]
  omega

theorem len_p : (Rec.mk 1 1073741824 6 0 []).bytes.length = 7 := by
  simp [Rec.bytes, u_2p30, uintB_lt]
theorem frOne : (allF ([] ++ frameB (Rec.mk 1 1073741824 6 0 []).bytes)).1 = [(Rec.mk 1 1073741824 6 0 []).bytes] := by
  have := allF_only (l := [(Rec.mk 1 1073741824 6 0 []).bytes]) (by intro c hc; simp only [List.mem_cons, List.not_mem_nil, or_false] at hc; subst hc; rw [len_p]; decide)
  simpa [framesB] using congrArg Prod.fst this
theorem mk65 : ∃ MC : Array Value, madeCells #[.int .u8 0] 65537 = MC ∧ ∀ W : World, (Instr.makeSlice 26 (.int .i64 65537) (.int .i64 65537)).run Tryz.prog W = .ok (.slice (some ⟨W.heap.size, 0, none⟩) 65537 65537) (W.alloc (.cells MC 5)) := by
  obtain ⟨i0, hi, hz0, hz1, hz2⟩ := info_parts info_u8
  refine ⟨_, rfl, fun W => ?_⟩
  have h1 := run_makeSlice W 26 5 i0 (.int .u8 0) Tryz.underlying26 hi hz0 .i64 .i64 65537 65537 (by decide) (by decide) (by rw [hz1]; decide) (by rw [hz2]; decide) (by decide)
  rw [h1, hz1]
  rfl
theorem one_len {xs : List RecX} {a : List UInt8} (h : xs.map (·.2) = [a]) : xs.length = 1 := by
  have := congrArg List.length h
  simpa using this

set_option maxRecDepth 100000 in
set_option maxHeartbeats 4000000 in
theorem walk (a0 : Int) (w0 : (Lit.int .u8 a0).wf = true) (w : World) (ht : TabP w) :
    Calls Tryz.prog 8 #[.int .u8 a0] w fun e w' => e = .returned (.bool true) ∧ Below w.heap.size w w' := by
  obtain ⟨n, rfl⟩ := Int.eq_ofNat_of_zero_le (of_nat w0).1
  have hm := (of_nat w0).2
  have HT := Lib.hid ht
  clear w0 ht
  go_enter Tryz.func8, Tryz.ntmps8
  go_upto_region 3 with fail
  obtain ⟨kk, hkk, hk1, hk2⟩ : ∃ kk : Int, (n : Int) % 64 - 32 = kk ∧ -32 ≤ kk ∧ kk ≤ 31 := ⟨_, rfl, by omega, by omega⟩
  rw [hkk]
  obtain ⟨c1, hc1, hc1b⟩ : ∃ c1 : Nat, 65524 + kk = (c1 : Int) ∧ c1 ≤ 100000 := ⟨(65524 + kk).toNat, by omega, by omega⟩
  obtain ⟨c2, hc2, hc2b⟩ : ∃ c2 : Nat, 65530 + kk = (c2 : Int) ∧ c2 ≤ 100000 := ⟨(65530 + kk).toNat, by omega, by omega⟩
  have HB1 := Lib.hid (box_below w (.cells #[.int .i64 1073741824, .int .i64 6] 24))
  have KB1 := Lib.hid (Blk.new w 24 #[.int .i64 1073741824, .int .i64 6])
  have e0 := KB1.out.cell (i := 0) (v := .int .i64 1073741824) rfl
  have e1 := KB1.out.cell (i := 1) (v := .int .i64 6) rfl
  clear hkk hm
  obtain ⟨vh, hvh⟩ : ∃ v, rep 104 40000 = v := ⟨_, rfl⟩
  have hvs : vh.size = 40000 := by rw [← hvh, rep_size]
  have hvl : vh.data.toList.length = 40000 := by rw [← hvh, rep_len]
  have HRH : Hid (∀ W : World, Calls Tryz.prog 53 #[.string ⟨#[104]⟩, .int .i64 40000] W fun e w' => e = .returned (.string vh) ∧ Below W.heap.size W w') := fun W => by
    subst hvh
    exact Tryz.strings_Repeat ⟨#[104]⟩ 40000 W (by decide) (by decide)
  clear hvh
  have HPUT : Hid (∀ (W : World) (p m : Nat), LS W p m (newN 7).l → Calls Tryz.prog 42 #[.pointer (some ⟨p, 0, none⟩), .int .i64 0, .string vh] W fun e w' => e = .returned (.int .i64 0) ∧ LS w' p m (longL vh) ∧ Fr (lF p m) W w') := fun W p m hl => by
    have h := lput_any 0 vh hl
    obtain ⟨h1, h2⟩ := long_put vh (by omega)
    rwa [show (newN 7).l = newLog from rfl, h1, h2] at h
  have HACC : Hid (∀ (W : World) (p m : Nat), AS W p m (newN 7).a → Calls Tryz.prog 40 #[.pointer (some ⟨p, 0, none⟩), .agg #[.int .i64 1073741824, .int .i64 6], .int .i64 1, .string vh] W fun e w' => e = .returned (.int .i64 0) ∧ AS w' p m (longA vh) ∧ Fr (S2 p m) W w') := fun W p m hl => by
    have h := accept_S p m _ W 1073741824 6 1 vh hl
    obtain ⟨h1, h2⟩ := long_acc vh (by omega)
    rwa [show (newN 7).a = newS 7 from rfl, h1, h2] at h
  have HLong := Lib.hid (long_len vh hvl)
  have HVal : Hid (∀ x ∈ (⟨longA vh, longL vh⟩ : NSt).a.L, x.2.2.2.size ≤ 65536) := fun x hx => by
    simp only [longA, List.mem_cons, List.not_mem_nil, or_false] at hx
    subst hx
    show vh.size ≤ 65536
    omega
  clear hvs hvl
  obtain ⟨MC, hMC, hmk⟩ := mk65
  by_cases hk : kk ≤ 0
  · have dk : decide (kk ≤ 0) = true := by simpa using hk
    go_upto_region 10 with (first
      | (go_at_call 53; (with_reducible refine (Tryz.strings_Repeat ⟨#[118]⟩ c1 _ ?_ ?_).mono ?_); omega; (show 1 * c1 ≤ 140737488355328; omega); rintro e w2 ⟨rfl, hb⟩; have KB2 := Lib.hid (KB1.out.of_block (hb.block _ KB1.out.lt)); have HB2 := Lib.hid (bchain HB1.out hb); have x0 := bcell hb e0; have x1 := bcell hb e1; clear hb)
      | (go_at_call 12; refine (sacc_yes 1073741824 6 4095 (rep 118 c1) _ (by rfl) (by decide) (by rw [rep_size]; omega) (by rw [len_acc (by omega) (by omega)]; omega)).mono ?_; rintro e w3 ⟨va, rfl, hv, hb⟩; obtain ⟨Aa, na, ca, rfl⟩ := row_shape hv; have KB3 := Lib.hid (KB2.out.of_block (hb.block _ KB2.out.lt)); have HB3 := Lib.hid (bchain HB2.out hb); clear hb)
      | (go_at_call 53; (with_reducible refine (Tryz.strings_Repeat ⟨#[118]⟩ c2 _ ?_ ?_).mono ?_); omega; (show 1 * c2 ≤ 140737488355328; omega); rintro e w4 ⟨rfl, hb⟩; have KB4 := Lib.hid (KB3.out.of_block (hb.block _ KB3.out.lt)); have HB4 := Lib.hid (bchain HB3.out hb); clear hb)
      | (go_at_call 13; refine (choose_yes 4095 (rep 118 c2) _ (by decide) (by rw [rep_size]; omega) (by rw [len_cho (by omega) (by omega)]; omega)).mono ?_; rintro e w5 ⟨vc, rfl, hv, hb⟩; obtain ⟨Ac, nc, cc, rfl⟩ := row_shape hv; have KB5 := Lib.hid (KB4.out.of_block (hb.block _ KB4.out.lt)); have HB5 := Lib.hid (bchain HB4.out hb); clear hb))
    have HF5 : Hid (∀ X : World, Below w5.heap.size w5 X → FoursAt X) := fun X hb => HT.out.below (HB5.out.trans (hb.mono HB5.out.size))
    have HBD : Hid (∀ X : World, Below w5.heap.size w5 X → Below w.heap.size w X) := fun X hb => HB5.out.trans (hb.mono HB5.out.size)
    clear KB1 KB2 KB3 KB4 HB1 HB2 HB3 HB4 e0 e1 x0 x1
    go_wp2_with (first
      | (go_at_call 14; refine (dnew_any _).mono ?_; rintro e x1 ⟨dp, dq, rfl, hd, hdp, hdq, hb⟩; have D1 := Lib.hid (show DkB w5 dp dq _ _ (sD []) x1 from ⟨hd, (fun i hi => by rcases hi with rfl | rfl | e | e; exact hdp; exact hdq; cases e; cases e), hb⟩); clear hd hb)
      | (go_at_call 15; refine (recover_lo 7 ⟨by decide, by decide⟩ D1.out (by decide) (HF5.out _ D1.out.bel) frN (t := newN 7) rfl).mono ?_; rintro e x2 ⟨aa, am, ll, lk, rfl, hn, hlo, hb⟩; have D2 := Lib.hid (D1.out.below hb); have N2 := Lib.hid hn; have L2 : Hid (∀ i, nF aa am ll lk i → w5.heap.size ≤ i) := fun i hi => Nat.le_trans D1.out.bel.size (hlo i hi); clear hn hb hlo D1)
      | (go_at_call 53; (with_reducible refine (HRH.out _).mono ?_); rintro e x3 ⟨rfl, hb⟩; have D3 := Lib.hid (D2.out.below hb); have N3 := Lib.hid (N2.out.below hb); clear hb D2 N2)
      | (go_at_call 42; refine (HPUT.out _ _ _ N3.out.l).mono ?_; rintro e x4 ⟨rfl, hl, hf⟩; have N4 := Lib.hid (N3.out.withL hl hf); have D4 := Lib.hid (D3.out.node N3.out (hf.mono (fun i hi => hi.elim (fun e => .inr (.inr (.inl e))) (fun e => .inr (.inr (.inr e))))) L2.out); have y0 := (KB5.out.of_block (D4.out.bel.block _ KB5.out.lt)).cell (i := 0) (v := .int .i64 1073741824) rfl; have y1 := (KB5.out.of_block (D4.out.bel.block _ KB5.out.lt)).cell (i := 1) (v := .int .i64 6) rfl; clear hl hf D3 N3)
      | (go_at_call 40; refine (HACC.out _ _ _ N4.out.a).mono ?_; rintro e x5 ⟨rfl, ha, hf⟩; have N5 := Lib.hid (N4.out.withA ha hf (fun i hi => hi)); have D5 := Lib.hid (D4.out.node N4.out (hf.mono (fun i hi => hi.elim (fun e => .inl e) (fun e => .inr (.inl e)))) L2.out); have z0 := (KB5.out.of_block (D5.out.bel.block _ KB5.out.lt)).cell (i := 0) (v := .int .i64 1073741824) rfl; have z1 := (KB5.out.of_block (D5.out.bel.block _ KB5.out.lt)).cell (i := 1) (v := .int .i64 6) rfl; clear ha hf D4 N4)
      | (go_at_call 11; refine (sprom_yes 1073741824 6 _ (by rfl)).mono ?_; rintro e x6 ⟨vp, rfl, hv, hb⟩; obtain ⟨Ap, np, cp, rfl⟩ := row_shape hv; have RP := Lib.hid (bs_on hv (Below.refl _ _)); have D6 := Lib.hid (D5.out.below hb); have N6 := Lib.hid (N5.out.below hb); clear hv hb D5 N5)
      | (go_at_call 16; refine (write_node (.slice Ap np cp) _ D6.out N6.out (HF5.out _ D6.out.bel) RP.out (by rw [len_p]; decide) (by rw [len_p]; decide)).mono ?_; rintro e x7 ⟨rfl, v7, hd, hn⟩; have D7 := Lib.hid hd; have N7 := Lib.hid hn; clear hd hn D6 N6 RP)
      | (go_at_call 17; refine (compact_any D7.out.at_ (sD_good (by rw [List.nil_append, frameB_length, len_p]; decide)) N7.out HLong.out.2 HVal.out).mono ?_; rintro e x8 ⟨hx, _⟩; obtain ⟨rfl, hb⟩ := hx HLong.out.1; have D8 := Lib.hid (D7.out.below hb); clear hx hb D7)
      | (go_at_call 16; refine (write_long _ (List.replicate 65537 0) (D8.out.below ((Below.refl _ x8).alloc (Nat.le_refl _) (.cells MC 5))) (made_bs x8 65537 (by decide) _ hMC) (by rw [List.length_replicate]; decide)).mono ?_; rintro e x9 ⟨rfl, hb⟩; have D9 := Lib.hid ((D8.out.below ((Below.refl _ x8).alloc (Nat.le_refl _) (.cells MC 5))).below hb); clear hb D8)
      | (go_at_call 54; refine (dsnap_no D9.out.at_ rfl).mono ?_; rintro e x10 ⟨rfl, rfl⟩)
      | (go_at_call 55; refine (drecords_any D9.out.at_ (sD_good (by rw [List.nil_append, frameB_length, len_p]; decide)) (HF5.out _ D9.out.bel)).mono ?_; rintro e x11 ⟨vr, xs, rfl, hxs, hrr, hb⟩; have hx1 := one_len (hxs.trans frOne); obtain ⟨Ar, cr, rfl⟩ := row_len hrr.row; rw [hx1]; have D10 := Lib.hid (D9.out.below hb); clear hb hxs hrr hx1 D9)
      | (go_at_call 30; refine (dsafe_any D10.out.at_).mono ?_; rintro e x12 ⟨rfl, rfl⟩)
      | (go_at_call 33; refine (dlen_any D10.out.at_).mono ?_; rintro e x13 ⟨rfl, rfl⟩)
      | (go_at_call 18; refine (works_any _ (HF5.out _ D10.out.bel)).mono ?_; rintro e x14 ⟨rfl, hb⟩; have D11 := Lib.hid (D10.out.below hb); clear hb))
    go_returns
    exact ⟨rfl, HBD.out _ D11.out.bel⟩
  · have dk : decide (kk ≤ 0) = false := by simpa using hk
    go_upto_region 10 with (first
      | (go_at_call 53; (with_reducible refine (Tryz.strings_Repeat ⟨#[118]⟩ c1 _ ?_ ?_).mono ?_); omega; (show 1 * c1 ≤ 140737488355328; omega); rintro e w2 ⟨rfl, hb⟩; have KB2 := Lib.hid (KB1.out.of_block (hb.block _ KB1.out.lt)); have HB2 := Lib.hid (bchain HB1.out hb); have x0 := bcell hb e0; have x1 := bcell hb e1; clear hb)
      | (go_at_call 12; refine (sacc_long 1073741824 6 4095 (rep 118 c1) _ (by rfl) (by decide) (by rw [rep_size]; omega) (by rw [len_acc (by omega) (by omega)]; omega)).mono ?_; rintro e w3 ⟨rfl, hb⟩; have KB3 := Lib.hid (KB2.out.of_block (hb.block _ KB2.out.lt)); have HB3 := Lib.hid (bchain HB2.out hb); clear hb)
      | (go_at_call 53; (with_reducible refine (Tryz.strings_Repeat ⟨#[118]⟩ c2 _ ?_ ?_).mono ?_); omega; (show 1 * c2 ≤ 140737488355328; omega); rintro e w4 ⟨rfl, hb⟩; have KB4 := Lib.hid (KB3.out.of_block (hb.block _ KB3.out.lt)); have HB4 := Lib.hid (bchain HB3.out hb); clear hb)
      | (go_at_call 13; refine (choose_long 4095 (rep 118 c2) _ (by decide) (by rw [rep_size]; omega) (by rw [len_cho (by omega) (by omega)]; omega)).mono ?_; rintro e w5 ⟨rfl, hb⟩; have KB5 := Lib.hid (KB4.out.of_block (hb.block _ KB4.out.lt)); have HB5 := Lib.hid (bchain HB4.out hb); clear hb))
    have HF5 : Hid (∀ X : World, Below w5.heap.size w5 X → FoursAt X) := fun X hb => HT.out.below (HB5.out.trans (hb.mono HB5.out.size))
    have HBD : Hid (∀ X : World, Below w5.heap.size w5 X → Below w.heap.size w X) := fun X hb => HB5.out.trans (hb.mono HB5.out.size)
    clear KB1 KB2 KB3 KB4 HB1 HB2 HB3 HB4 e0 e1 x0 x1
    go_wp2_with (first
      | (go_at_call 14; refine (dnew_any _).mono ?_; rintro e x1 ⟨dp, dq, rfl, hd, hdp, hdq, hb⟩; have D1 := Lib.hid (show DkB w5 dp dq _ _ (sD []) x1 from ⟨hd, (fun i hi => by rcases hi with rfl | rfl | e | e; exact hdp; exact hdq; cases e; cases e), hb⟩); clear hd hb)
      | (go_at_call 15; refine (recover_lo 7 ⟨by decide, by decide⟩ D1.out (by decide) (HF5.out _ D1.out.bel) frN (t := newN 7) rfl).mono ?_; rintro e x2 ⟨aa, am, ll, lk, rfl, hn, hlo, hb⟩; have D2 := Lib.hid (D1.out.below hb); have N2 := Lib.hid hn; have L2 : Hid (∀ i, nF aa am ll lk i → w5.heap.size ≤ i) := fun i hi => Nat.le_trans D1.out.bel.size (hlo i hi); clear hn hb hlo D1)
      | (go_at_call 53; (with_reducible refine (HRH.out _).mono ?_); rintro e x3 ⟨rfl, hb⟩; have D3 := Lib.hid (D2.out.below hb); have N3 := Lib.hid (N2.out.below hb); clear hb D2 N2)
      | (go_at_call 42; refine (HPUT.out _ _ _ N3.out.l).mono ?_; rintro e x4 ⟨rfl, hl, hf⟩; have N4 := Lib.hid (N3.out.withL hl hf); have D4 := Lib.hid (D3.out.node N3.out (hf.mono (fun i hi => hi.elim (fun e => .inr (.inr (.inl e))) (fun e => .inr (.inr (.inr e))))) L2.out); have y0 := (KB5.out.of_block (D4.out.bel.block _ KB5.out.lt)).cell (i := 0) (v := .int .i64 1073741824) rfl; have y1 := (KB5.out.of_block (D4.out.bel.block _ KB5.out.lt)).cell (i := 1) (v := .int .i64 6) rfl; clear hl hf D3 N3)
      | (go_at_call 40; refine (HACC.out _ _ _ N4.out.a).mono ?_; rintro e x5 ⟨rfl, ha, hf⟩; have N5 := Lib.hid (N4.out.withA ha hf (fun i hi => hi)); have D5 := Lib.hid (D4.out.node N4.out (hf.mono (fun i hi => hi.elim (fun e => .inl e) (fun e => .inr (.inl e)))) L2.out); have z0 := (KB5.out.of_block (D5.out.bel.block _ KB5.out.lt)).cell (i := 0) (v := .int .i64 1073741824) rfl; have z1 := (KB5.out.of_block (D5.out.bel.block _ KB5.out.lt)).cell (i := 1) (v := .int .i64 6) rfl; clear ha hf D4 N4)
      | (go_at_call 11; refine (sprom_yes 1073741824 6 _ (by rfl)).mono ?_; rintro e x6 ⟨vp, rfl, hv, hb⟩; obtain ⟨Ap, np, cp, rfl⟩ := row_shape hv; have RP := Lib.hid (bs_on hv (Below.refl _ _)); have D6 := Lib.hid (D5.out.below hb); have N6 := Lib.hid (N5.out.below hb); clear hv hb D5 N5)
      | (go_at_call 16; refine (write_node (.slice Ap np cp) _ D6.out N6.out (HF5.out _ D6.out.bel) RP.out (by rw [len_p]; decide) (by rw [len_p]; decide)).mono ?_; rintro e x7 ⟨rfl, v7, hd, hn⟩; have D7 := Lib.hid hd; have N7 := Lib.hid hn; clear hd hn D6 N6 RP)
      | (go_at_call 17; refine (compact_any D7.out.at_ (sD_good (by rw [List.nil_append, frameB_length, len_p]; decide)) N7.out HLong.out.2 HVal.out).mono ?_; rintro e x8 ⟨hx, _⟩; obtain ⟨rfl, hb⟩ := hx HLong.out.1; have D8 := Lib.hid (D7.out.below hb); clear hx hb D7)
      | (go_at_call 16; refine (write_long _ (List.replicate 65537 0) (D8.out.below ((Below.refl _ x8).alloc (Nat.le_refl _) (.cells MC 5))) (made_bs x8 65537 (by decide) _ hMC) (by rw [List.length_replicate]; decide)).mono ?_; rintro e x9 ⟨rfl, hb⟩; have D9 := Lib.hid ((D8.out.below ((Below.refl _ x8).alloc (Nat.le_refl _) (.cells MC 5))).below hb); clear hb D8)
      | (go_at_call 54; refine (dsnap_no D9.out.at_ rfl).mono ?_; rintro e x10 ⟨rfl, rfl⟩)
      | (go_at_call 55; refine (drecords_any D9.out.at_ (sD_good (by rw [List.nil_append, frameB_length, len_p]; decide)) (HF5.out _ D9.out.bel)).mono ?_; rintro e x11 ⟨vr, xs, rfl, hxs, hrr, hb⟩; have hx1 := one_len (hxs.trans frOne); obtain ⟨Ar, cr, rfl⟩ := row_len hrr.row; rw [hx1]; have D10 := Lib.hid (D9.out.below hb); clear hb hxs hrr hx1 D9)
      | (go_at_call 30; refine (dsafe_any D10.out.at_).mono ?_; rintro e x12 ⟨rfl, rfl⟩)
      | (go_at_call 33; refine (dlen_any D10.out.at_).mono ?_; rintro e x13 ⟨rfl, rfl⟩)
      | (go_at_call 18; refine (works_any _ (HF5.out _ D10.out.bel)).mono ?_; rintro e x14 ⟨rfl, hb⟩; have D11 := Lib.hid (D10.out.below hb); clear hb))
    go_returns
    exact ⟨rfl, HBD.out _ D11.out.bel⟩
end Go.Proofs.YtlfikhblmbidmaaGreatDoor.stableLong
