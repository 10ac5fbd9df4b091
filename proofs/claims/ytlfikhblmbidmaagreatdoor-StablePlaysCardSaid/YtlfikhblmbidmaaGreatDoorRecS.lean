import Derived.Test.YtlfikhblmbidmaaGreatDoorLoadR
set_option linter.all false
namespace Go.Proofs.YtlfikhblmbidmaaGreatDoor
open Go.RowKit Go.Maps
def loadS (n : Int) (st : List UInt8) : Option NSt := match loadP n (some st) with
 | none => none
 | some x => if endE x.2 = 0 then some x.1 else none
def RdS (w : World) (a m q k : Nat) (o : Option NSt) (e : Ending) (w' : World) : Prop :=
 match o with
 | none => e = .returned (.bool false) ∧ Fr (nF a m q k) w w'
 | some t => e = .returned (.bool true) ∧ NS w' a m q k t ∧ Fr (nF a m q k) w w'
theorem RdS.of {w w' : World} {a m q k : Nat} {n : Int} {bs : List UInt8} {e : Ending} (h : RdLPost w a m q k n bs e w') : RdS w a m q k (loadS n bs) e w' := by
 unfold RdLPost at h
 unfold RdS loadS
 obtain ⟨h1, h2⟩ := h
 cases hp : loadP n (some bs) with
 | none => rw [hp] at h2; exact ⟨h2, h1⟩
 | some x =>
  rw [hp] at h2
  obtain ⟨h2, h3⟩ := h2
  by_cases he : endE x.2 = 0
  ·simp only [if_pos he]
   rw [he] at h2
   exact ⟨h2, h3, h1⟩
  ·simp only [if_neg he]
   rw [show (endE x.2 == 0) = false by simpa using he] at h2
   exact ⟨h2, h1⟩
def recO (n : Int) (ds : DSt) : Option NSt := if ds.has = true then (loadS n ds.st).bind fun t => recR t (allF ds.b).1 else recR (newN n) (allF ds.b).1
set_option maxRecDepth 100000 in
set_option maxHeartbeats 4000000 in
theorem recover_snap {w : World} {dp dq : Nat} {v sv : Value} {ds : DSt} (n : Int) (hn : okN n) (h : DiskAt w dp dq v sv ds) (hg : DGood ds) (hF : FoursAt w) (hs : ds.has = true) (hls : ds.st.length ≤ 100000000) :
  Calls Tryz.prog 15 #[.int .i64 n, .pointer (some ⟨dp, 0, none⟩)] w (RcP w (recO n ds)) := by
 have hmf : ∀ (fn : Fn) (first cap : Array Value) (w : World), (Instr.makeFunc fn first cap).run Tryz.prog w = .ok (.func fn first cap) w := fun _ _ _ _ => rfl
 have hb1 : Below w.heap.size w (w.alloc (.cells #[.int .i64 n] 3)) := (Below.refl _ w).alloc (Nat.le_refl _) _
 have q1 := (Blk.new w 3 #[.int .i64 n]).cell (i := 0) (v := .int .i64 n) rfl
 have KN1 := Lib.hid (Blk.new w 3 #[.int .i64 n])
 have B1 := Lib.hid hb1
 have H := Lib.hid h
 have HF := Lib.hid hF
 clear h hb1 hF
 cases hld : loadS n ds.st with
 | none =>
  rw [show recO n ds = none by unfold recO; rw [if_pos hs, hld]; rfl]
  go_enter Tryz.func15, Tryz.ntmps15
  go_wp2_with (first
  | (go_at_call 58; refine (dcopy_any (H.out.below B1.out) hg).mono ?_; rintro e w2 ⟨cp, cq, cv, csv, rfl, _, _, hb2⟩; have q2 := bcell hb2 q1; have B2 := Lib.hid (bchain B1.out hb2); have KN2 := Lib.hid (KN1.out.of_block (hb2.block _ KN1.out.lt)); clear hb2)
  | (go_at_call 69; refine (new_S _ n hn).mono ?_; rintro e w3 ⟨p, m, rfl, ha, hp, hm, hb3⟩; have B3 := Lib.hid (bchain B2.out hb3); have KN3 := Lib.hid (KN2.out.of_block (hb3.block _ KN2.out.lt)); have A3 := Lib.hid ha; clear hb3 ha)
  | (go_at_call 70; refine (lnew_any _).mono ?_; rintro e w4 ⟨q, k, rfl, hl, hq, hk, hb4⟩; have hne : m ≠ k := (by have := A3.out.lt; omega); have hlo : ∀ i, nF p m q k i → w.heap.size ≤ i := (fun i hi => by have h2 := B2.out.size; have h3 := B3.out.size; rcases hi with rfl | rfl | rfl | rfl <;> omega); have NS4 := Lib.hid (show NS w4 p m q k (newN n) from ⟨A3.out.below hb4, ⟨hl, LGood.new⟩, hne⟩); have HLO := Lib.hid hlo; have KN4 := Lib.hid ((KN3.out.of_block (hb4.block _ KN3.out.lt)).of_block ((box_below w4 (.cells #[.pointer (some ⟨p, 0, none⟩), .pointer (some ⟨q, 0, none⟩)] 113)).block _ (Nat.lt_of_lt_of_le KN3.out.lt hb4.size))); have B4 := Lib.hid (bchain B3.out hb4); have NB4 := Lib.hid (NS4.out.below (box_below w4 (.cells #[.pointer (some ⟨p, 0, none⟩), .pointer (some ⟨q, 0, none⟩)] 113))); have KB4 := Lib.hid (Blk.new w4 113 #[.pointer (some ⟨p, 0, none⟩), .pointer (some ⟨q, 0, none⟩)]); have BB4 := Lib.hid (bchain B4.out (box_below w4 (.cells #[.pointer (some ⟨p, 0, none⟩), .pointer (some ⟨q, 0, none⟩)] 113))); clear hb4 hl hlo hne)
  | (go_at_call 54; refine (dsnap_yes (H.out.below BB4.out) hs hls).mono ?_; rintro e w5 ⟨vo, rfl, hv, hb5⟩; obtain ⟨Av, nv, cv, rfl⟩ := row_shape hv; have V5 := Lib.hid hv.bsIn; have B5 := Lib.hid (bchain BB4.out hb5); have N5 := Lib.hid (NB4.out.below hb5); have KB5 := Lib.hid (KB4.out.of_block (hb5.block _ KB4.out.lt)); have KN5 := Lib.hid (KN4.out.of_block (hb5.block _ KN4.out.lt)); clear hv hb5)
  | (go_at_call 71; refine (readingL n hn p m q k w4.heap.size w.heap.size _ ds.st _ V5.out hls N5.out KB5.out KN5.out).mono ?_; intro e w6 hr; replace hr := RdS.of hr; rw [hld] at hr; obtain ⟨rfl, hf⟩ := hr; have B6 := Lib.hid (B5.out.trans (hf.below B5.out.size (fun i hi => HLO.out i hi))); clear hf))
  go_returns
  exact RcP.none_ B6.out
 | some t =>
  rw [show recO n ds = recR t (allF ds.b).1 by unfold recO; rw [if_pos hs, hld]; rfl]
  go_enter Tryz.func15, Tryz.ntmps15
  go_wp2_with (first
  | (go_at_call 58; refine (dcopy_any (H.out.below B1.out) hg).mono ?_; rintro e w2 ⟨cp, cq, cv, csv, rfl, _, _, hb2⟩; have q2 := bcell hb2 q1; have B2 := Lib.hid (bchain B1.out hb2); have KN2 := Lib.hid (KN1.out.of_block (hb2.block _ KN1.out.lt)); clear hb2)
  | (go_at_call 69; refine (new_S _ n hn).mono ?_; rintro e w3 ⟨p, m, rfl, ha, hp, hm, hb3⟩; have B3 := Lib.hid (bchain B2.out hb3); have KN3 := Lib.hid (KN2.out.of_block (hb3.block _ KN2.out.lt)); have A3 := Lib.hid ha; clear hb3 ha)
  | (go_at_call 70; refine (lnew_any _).mono ?_; rintro e w4 ⟨q, k, rfl, hl, hq, hk, hb4⟩; have hne : m ≠ k := (by have := A3.out.lt; omega); have hlo : ∀ i, nF p m q k i → w.heap.size ≤ i := (fun i hi => by have h2 := B2.out.size; have h3 := B3.out.size; rcases hi with rfl | rfl | rfl | rfl <;> omega); have NS4 := Lib.hid (show NS w4 p m q k (newN n) from ⟨A3.out.below hb4, ⟨hl, LGood.new⟩, hne⟩); have HLO := Lib.hid hlo; have KN4 := Lib.hid ((KN3.out.of_block (hb4.block _ KN3.out.lt)).of_block ((box_below w4 (.cells #[.pointer (some ⟨p, 0, none⟩), .pointer (some ⟨q, 0, none⟩)] 113)).block _ (Nat.lt_of_lt_of_le KN3.out.lt hb4.size))); have B4 := Lib.hid (bchain B3.out hb4); have NB4 := Lib.hid (NS4.out.below (box_below w4 (.cells #[.pointer (some ⟨p, 0, none⟩), .pointer (some ⟨q, 0, none⟩)] 113))); have KB4 := Lib.hid (Blk.new w4 113 #[.pointer (some ⟨p, 0, none⟩), .pointer (some ⟨q, 0, none⟩)]); have BB4 := Lib.hid (bchain B4.out (box_below w4 (.cells #[.pointer (some ⟨p, 0, none⟩), .pointer (some ⟨q, 0, none⟩)] 113))); clear hb4 hl hlo hne)
  | (go_at_call 54; refine (dsnap_yes (H.out.below BB4.out) hs hls).mono ?_; rintro e w5 ⟨vo, rfl, hv, hb5⟩; obtain ⟨Av, nv, cv, rfl⟩ := row_shape hv; have V5 := Lib.hid hv.bsIn; have B5 := Lib.hid (bchain BB4.out hb5); have N5 := Lib.hid (NB4.out.below hb5); have KB5 := Lib.hid (KB4.out.of_block (hb5.block _ KB4.out.lt)); have KN5 := Lib.hid (KN4.out.of_block (hb5.block _ KN4.out.lt)); clear hv hb5)
  | (go_at_call 71; refine (readingL n hn p m q k w4.heap.size w.heap.size _ ds.st _ V5.out hls N5.out KB5.out KN5.out).mono ?_; intro e w7 hr; replace hr := RdS.of hr; rw [hld] at hr; obtain ⟨rfl, hn7, hf⟩ := hr; have B7 := Lib.hid (B5.out.trans (hf.below B5.out.size (fun i hi => HLO.out i hi))); have N7 := Lib.hid hn7; have KB7 := Lib.hid (KB5.out.fr hf (fun e => by have := NS4.out.lt e; omega)); clear hf hn7)
  | (go_at_call 55; refine (drecords_any (H.out.below B7.out) hg (HF.out.below B7.out)).mono ?_; rintro e w6 ⟨vo, xs, rfl, hxs, hr, hb6⟩; obtain ⟨A6, c6, rfl⟩ := row_len hr.row; have HB6 := Lib.hid hb6; have HR6 := Lib.hid hr; clear hb6 hr))
  have hb6w : Below w.heap.size w w6 := B7.out.trans (HB6.out.mono B7.out.size)
  have hns : NS w6 p m q k t := N7.out.below HB6.out
  have hbox : Blk w6 w4.heap.size 113 #[.pointer (some ⟨p, 0, none⟩), .pointer (some ⟨q, 0, none⟩)] := KB7.out.of_block (HB6.out.block _ KB7.out.lt)
  have hlo : ∀ i, nF p m q k i → w.heap.size ≤ i ∧ i < w4.heap.size := fun i hi => ⟨HLO.out i hi, NS4.out.lt hi⟩
  have h46 : w4.heap.size < w6.heap.size := hbox.lt
  clear B1 B2 B3 B4 BB4 B5 B7 KN1 KN2 KN3 KN4 KN5 A3 NS4 NB4 KB4 KB5 KB7 N5 N7 V5 HLO H HF q1 q2 hp hm hq hk
  have hsz : ∀ x ∈ xs, x.2.length ≤ 65536 := fun x hx => allF_sizes _ _ (Nat.le_refl _) x.2 (by rw [← hxs]; exact List.mem_map_of_mem hx)
  have hcnt : xs.length ≤ 16777216 := by
   have h1 := allF_count _ ds.b (Nat.le_refl _)
   have h2 := hg.most
   rw [← hxs, List.length_map] at h1
   omega
  rw [← hxs]
  have HSZ := Lib.hid hsz
  have HXS := Lib.hid hxs
  have HLO := Lib.hid hlo
  have HB := Lib.hid hb6w
  have HN := Lib.hid hns
  have HX := Lib.hid hbox
  clear hsz hlo hb6w hns hbox hxs HB6
  go_loopw [45] (fun c wr => ∃ (i : Nat) (s : NSt), i ≤ xs.length ∧ c = .int .i64 i ∧ NS wr p m q k s ∧ Fr (nF p m q k) w6 wr ∧ recR t (xs.map (·.2)) = recR s ((xs.drop i).map (·.2))) (fun c _ => xs.length - (intOf c).toNat)
  case atStart => exact ⟨0, t, Nat.zero_le _, rfl, HN.out, Fr.refl _ _, by simp⟩
  case round =>
   obtain ⟨i, s, hi, rfl, hS, hfr, hrec⟩ := hrel
   have hbel : Below w.heap.size w wr := HB.out.trans (hfr.below HB.out.size (fun j hj => (HLO.out j hj).1))
   by_cases hlt : i < xs.length
   ·obtain ⟨y, hy⟩ : ∃ y, xs[i]? = some y := ⟨_, List.getElem?_eq_getElem hlt⟩
    obtain ⟨yv, yb⟩ := y
    have hi1 := Lib.hid (show i + 1 ≤ xs.length by omega)
    have hms := Lib.hid (show xs.length - (intOf (Value.int .i64 ((i + 1 : Nat) : Int))).toNat < xs.length - (intOf (Value.int .i64 (i : Int))).toNat by simp [intOf]; omega)
    have hw := Lib.hid (show ((i : Int) + 1) = ((i + 1 : Nat) : Int) by push_cast; rfl)
    have hR := HR6.out.keep (HN.out.keepT hfr _ (by decide) (by decide)) (HN.out.keepT hfr _ (by decide) (by decide))
    obtain ⟨g, c, hA, hcell, hgl⟩ := row_at hR.row (show (xs.map (·.1))[i]? = some yv by rw [List.getElem?_map, hy]; rfl)
    obtain ⟨rfl, rfl⟩ : A6 = some ⟨g, 0, none⟩ ∧ c6 = c := by simpa using hA
    have hrow := hR.rows (yv, yb) (List.mem_of_getElem? hy)
    have hys : yb.length ≤ 65536 := HSZ.out (yv, yb) (List.mem_of_getElem? hy)
    have hdrop : (xs.drop i).map (·.2) = yb :: ((xs.drop (i + 1)).map (·.2)) := by
     rw [List.drop_eq_getElem_cons hlt, List.map_cons]
     rw [List.getElem?_eq_getElem hlt] at hy
     rw [Option.some.inj hy]
    rw [hdrop] at hrec
    have hbs : BsIn wr yv yb := LRow.bsIn (LRow.of_row hrow)
    obtain ⟨ya, yn, yc, rfl⟩ := row_shape hrow
    have hX := HX.out.fr hfr (fun e => by have := (HLO.out _ e).2; omega)
    have HS := Lib.hid hS
    have HFR := Lib.hid hfr
    have HBEL := Lib.hid hbel
    have HREC := Lib.hid hrec
    have hwr := hfr.size
    clear hS hfr hbel hrec hR hrow hA hdrop
    cases hp : parseP yb with
    | none =>
     have HP := Lib.hid (parse_none _ yb wr hbs (by omega) hp)
     have HPP := Lib.hid hp
     clear hp hbs
     go_wp2_with (go_at_call 74; refine HP.out.mono ?_; rintro e w7 ⟨rfl, hb7⟩; have HB7 := Lib.hid hb7; clear hb7)
     go_returns
     rw [HREC.out, recR_none HPP.out]
     exact RcP.none_ ((HBEL.out.trans (HB7.out.mono HBEL.out.size)).alloc (by have := HBEL.out.size; have := HB7.out.size; omega) _)
    | some x =>
     have HP := Lib.hid (parse_some _ yb x wr hbs (by omega) hp)
     have HPP := Lib.hid hp
     clear hp hbs
     by_cases hd : doE s x = 0
     ·have hd' : decide (doE s x = 0) = true := by simpa using hd
      go_wp2_with (first
       | (go_at_call 74; refine HP.out.mono ?_; rintro e w7 ⟨rfl, hb7⟩; have hx7 := (hX.of_block (hb7.block _ hX.lt)).alloc (.cells (recX x) 121); have e0 := hx7.cell (i := 0) (v := .pointer (some ⟨p, 0, none⟩)) rfl; have e1 := hx7.cell (i := 1) (v := .pointer (some ⟨q, 0, none⟩)) rfl; have hr7 := Blk.new w7 121 (recX x); have d0 := hr7.cell (i := 0) (v := .int .i64 (x.k : Int)) rfl; have d1 := hr7.cell (i := 1) (v := .int .i64 (x.ro : Int)) rfl; have d2 := hr7.cell (i := 2) (v := .int .i64 (x.no : Int)) rfl; have d3 := hr7.cell (i := 3) (v := .int .i64 (x.sl : Int)) rfl; have d4 := hr7.cell (i := 4) (v := .string (sB x.v)) rfl; have HB7 := Lib.hid hb7; have HD := Lib.hid (do_any x ((HS.out.below hb7).below ((Below.refl _ w7).alloc (Nat.le_refl _) (.cells (recX x) 121)))); clear hb7 hr7 hx7)
       | (go_at_call 75; refine HD.out.mono ?_; rintro e w8 ⟨rfl, hs8, hf8⟩; have HS8 := Lib.hid hs8; have HF8 := Lib.hid hf8; clear hs8 hf8))
      rw [hw.out]
      exact ⟨⟨i + 1, doS s x, hi1.out, rfl, HS8.out, (HFR.out.trans ((Fr.of_below HB7.out).alloc _)).trans HF8.out, by rw [HREC.out, recR_step HPP.out hd]⟩, hms.out⟩
     ·have hd' : decide (doE s x = 0) = false := by simpa using hd
      go_wp2_with (first
       | (go_at_call 74; refine HP.out.mono ?_; rintro e w7 ⟨rfl, hb7⟩; have hx7 := (hX.of_block (hb7.block _ hX.lt)).alloc (.cells (recX x) 121); have e0 := hx7.cell (i := 0) (v := .pointer (some ⟨p, 0, none⟩)) rfl; have e1 := hx7.cell (i := 1) (v := .pointer (some ⟨q, 0, none⟩)) rfl; have hr7 := Blk.new w7 121 (recX x); have d0 := hr7.cell (i := 0) (v := .int .i64 (x.k : Int)) rfl; have d1 := hr7.cell (i := 1) (v := .int .i64 (x.ro : Int)) rfl; have d2 := hr7.cell (i := 2) (v := .int .i64 (x.no : Int)) rfl; have d3 := hr7.cell (i := 3) (v := .int .i64 (x.sl : Int)) rfl; have d4 := hr7.cell (i := 4) (v := .string (sB x.v)) rfl; have HB7 := Lib.hid hb7; have HD := Lib.hid (do_any x ((HS.out.below hb7).below ((Below.refl _ w7).alloc (Nat.le_refl _) (.cells (recX x) 121)))); clear hb7 hr7 hx7)
       | (go_at_call 75; refine HD.out.mono ?_; rintro e w8 ⟨rfl, hs8, hf8⟩; have HS8 := Lib.hid hs8; have HF8 := Lib.hid hf8; clear hs8 hf8))
      go_returns
      rw [HREC.out, recR_bad HPP.out hd]
      exact RcP.none_ (HB.out.trans (((HFR.out.trans ((Fr.of_below HB7.out).alloc _)).trans HF8.out).below HB.out.size (fun j hj => (HLO.out j hj).1)))
   ·obtain rfl : i = xs.length := by omega
    rw [List.drop_length] at hrec
    have HREC := Lib.hid hrec
    have hX := HX.out.fr hfr (fun e => by have := (HLO.out _ e).2; omega)
    have e0 := hX.cell (i := 0) (v := .pointer (some ⟨p, 0, none⟩)) rfl
    have e1 := hX.cell (i := 1) (v := .pointer (some ⟨q, 0, none⟩)) rfl
    have HS := Lib.hid hS
    have HBEL := Lib.hid hbel
    clear hS hbel hX hfr hrec
    go_wp2_with fail
    go_region
    all_goals (try go_wp2_with fail)
    all_goals go_returns
    all_goals rw [← HXS.out, HREC.out]
    all_goals refine ⟨HBEL.out.drew, ?_⟩
    all_goals exact ⟨p, m, q, k, rfl, HS.out.below ((Below.refl _ _).drew), fun i hi => (HLO.out i hi).1⟩
theorem recover_all {w : World} {dp dq : Nat} {v sv : Value} {ds : DSt} (n : Int) (hn : okN n) (h : DiskAt w dp dq v sv ds) (hg : DGood ds) (hF : FoursAt w) (hls : ds.has = true → ds.st.length ≤ 100000000) :
  Calls Tryz.prog 15 #[.int .i64 n, .pointer (some ⟨dp, 0, none⟩)] w (RcP w (recO n ds)) := by
 cases hs : ds.has with
 | true => exact recover_snap n hn h hg hF hs (hls hs)
 | false =>
  rw [show recO n ds = recR (newN n) (allF ds.b).1 by unfold recO; rw [if_neg (by rw [hs]; decide)]]
  exact recover_any n hn h hg hF hs
end Go.Proofs.YtlfikhblmbidmaaGreatDoor