/- Laid together by gen/merge.py: R17E R17F R17G R17H. -/
import Derived.Test.YtlfikhblmbidmaaGreatDoorMrgM
import Derived.Test.YtlfikhblmbidmaaGreatDoorMrgK
import Derived.Test.YtlfikhblmbidmaaGreatDoorEqL
import Derived.Test.YtlfikhblmbidmaaGreatDoorTabF
import Derived.Deep.Fields
set_option linter.all false
namespace Go.Proofs.YtlfikhblmbidmaaGreatDoor
open Go.RowKit Go.Maps
def rnF (a q : Nat) (lv : Value) (i : Nat) : Prop := i = a ∨ rlF q lv i
namespace RNS
variable {W W' : World} {lo a q : Nat} {av lv : Value} {l : VL} {t : NSt}
theorem below (h : RNS W lo a av q lv l t) (k : Below W.heap.size W W') : RNS W' lo a av q lv l t := ⟨h.ac.below k, h.lg.below k, h.la, h.lq, h.ll⟩
theorem low (h : RNS W lo a av q lv l t) : ∀ i, rnF a q lv i → lo ≤ i := fun i e => by
 rcases e with rfl | rfl | e
 ·exact h.la
 ·exact h.lq
 ·exact h.ll i e
theorem lt (h : RNS W lo a av q lv l t) : ∀ i, rnF a q lv i → i < W.heap.size := fun i e => by
 rcases e with rfl | rfl | e
 ·exact h.ac.blk.lt
 ·exact h.lg.blk.lt
 ·exact (h.lg.row.lt i e).2
theorem ty (h : RNS W lo a av q lv l t) : ∀ i, rnF a q lv i → ∀ (T : TypeId) (cs : Array Value), T ≠ 166 → T ≠ 172 → T ≠ 174 → W.heap[i]? ≠ some (.cells cs T (0, 0)) := fun i e T cs h1 h2 h3 hc => by
 rcases e with rfl | rfl | e
 ·have := (show W.heap[i]? = _ from h.ac.blk).symm.trans hc
  simp only [Option.some.injEq, Obj.cells.injEq] at this
  exact h1 this.2.1.symm
 ·have := (show W.heap[i]? = _ from h.lg.blk).symm.trans hc
  simp only [Option.some.injEq, Obj.cells.injEq] at this
  exact h2 this.2.1.symm
 ·obtain ⟨cur, hcur⟩ := row_blk h.lg.row i e
  have := hcur.symm.trans hc
  simp only [Option.some.injEq, Obj.cells.injEq] at this
  exact h3 this.2.1.symm
theorem withA (h : RNS W lo a av q lv l t) {av' : Value} {s' : ASt} (k : RAt W' a av' s') (hf : Fr (S1 a) W W') : RNS W' lo a av' q lv l ⟨s', t.l⟩ :=
 ⟨k, h.lg.fr hf (h.lg.blk.ne_type h.ac.blk (by decide)) (fun i e => row_ne_blk h.lg.row h.ac.blk (by decide) i e), h.la, h.lq, h.ll⟩
theorem withL (h : RNS W lo a av q lv l t) (hlo : lo ≤ W.heap.size) {lv' : Value} {l' : VL} {s' : LogSt} (k : RLStep W q lv W' lv' l' s') : RNS W' lo a av q lv' l' ⟨t.a, s'⟩ := by
 refine ⟨h.ac.fr k.fr (fun e => ?_) (fun i e1 e => ?_), k.at_, h.la, h.lq, fun i e => ?_⟩
 ·rcases e with e | e
  ·exact h.ac.blk.ne_type h.lg.blk (by decide) e
  ·exact row_ne_blk h.lg.row h.ac.blk (by decide) a e rfl
 ·obtain ⟨cur, hcur⟩ := row_blk h.ac.row i e1
  exact h.ty i (.inr e) _ _ (by decide) (by decide) (by decide) hcur
 ·rcases k.own i (.inr e) with e | e
  ·exact h.low i (.inr e)
  ·exact Nat.le_trans hlo e
theorem keepT (h : RNS W lo a av q lv l t) {S : Nat → Prop} (hS : ∀ i, S i → rnF a q lv i) (k : Fr S W W') (T : TypeId) (h1 : T ≠ 166) (h2 : T ≠ 172) (h3 : T ≠ 174) : KeepT T W W' :=
 KeepT.of_fr k (fun i hi cs z hc => by
  rcases hS i hi with rfl | rfl | e
  ·have := (show W.heap[i]? = _ from h.ac.blk).symm.trans hc
   simp only [Option.some.injEq, Obj.cells.injEq] at this
   exact h1 this.2.1.symm
  ·have := (show W.heap[i]? = _ from h.lg.blk).symm.trans hc
   simp only [Option.some.injEq, Obj.cells.injEq] at this
   exact h2 this.2.1.symm
  ·obtain ⟨cur, hcur⟩ := row_blk h.lg.row i e
   have := hcur.symm.trans hc
   simp only [Option.some.injEq, Obj.cells.injEq] at this
   exact h3 this.2.1.symm)
end RNS
def RDoP (w : World) (lo a q : Nat) (lv : Value) (t : NSt) (b : List UInt8) (e : Ending) (w' : World) : Prop :=
 Fr (rnF a q lv) w w' ∧ match parseP b with
 | none => e = .returned (.bool false)
 | some x => e = .returned (.bool (doE t x == 0)) ∧ ∃ av' lv' l', RNS w' lo a av' q lv' l' (doS t x)
set_option maxRecDepth 100000 in
set_option maxHeartbeats 4000000 in
theorem rdo_any {w : World} {lo a q : Nat} {av lv : Value} {l : VL} {t : NSt} (h : RNS w lo a av q lv l t) (hlo : lo ≤ w.heap.size) (v : Value) (b : List UInt8) (hv : BsIn w v b) (hl : b.length ≤ 100000000) :
  Calls Tryz.prog 105 #[.pointer (some ⟨a, 0, none⟩), .pointer (some ⟨q, 0, none⟩), v] w (RDoP w lo a q lv t b) := by
 have HP := Lib.hid (rparse_any v b w hv hl)
 have H := Lib.hid h
 unfold RDoP
 cases hp : parseP b with
 | none =>
  clear h hv
  go_enter Tryz.func105, Tryz.ntmps105
  go_wp2_with (go_at_call 25; refine HP.out.mono ?_; intro e w2 hr; unfold RPost at hr; rw [hp] at hr; obtain ⟨rfl, hb⟩ := hr; have B2 := Lib.hid hb; clear hb)
  go_returns
  exact ⟨(Fr.of_below B2.out).alloc _, rfl⟩
 | some x =>
  have hok := (parseP_some hp).1
  obtain ⟨k, ro, no, sl, bs⟩ := x
  have h13 : k = 1 ∨ k = 2 ∨ k = 3 := by
   have h1 : 1 ≤ k := hok.k1
   have h2 : k ≤ 3 := hok.k3
   omega
  clear h hv hok
  rcases h13 with rfl | rfl | rfl
  ·have hE : doE t ⟨1, ro, no, sl, bs⟩ = prE t.a (ro : Int) (no : Int) 0 := rfl
   have hS : doS t ⟨1, ro, no, sl, bs⟩ = ⟨prS t.a (ro : Int) (no : Int) 0, t.l⟩ := rfl
   simp only []
   rw [hE, hS]
   clear hE hS
   go_enter Tryz.func105, Tryz.ntmps105
   go_wp2_with (first
    | (go_at_call 25; refine HP.out.mono ?_; intro e w2 hr; unfold RPost at hr; rw [hp] at hr; obtain ⟨rfl, hb⟩ := hr; have HB := Lib.hid (H.out.below (bchain hb (box_below w2 (.cells #[.int .i64 (ro : Int), .int .i64 (no : Int)] 24)))); have B2 := Lib.hid (bchain hb (box_below w2 (.cells #[.int .i64 (ro : Int), .int .i64 (no : Int)] 24))); clear hb)
    | (go_at_call 39; refine (rpromise_any (ro : Int) (no : Int) 0 HB.out.ac).mono ?_; rintro e w3 ⟨vo, rfl, av', ha, hf⟩; have R3 := Lib.hid (HB.out.withA ha hf); have F3 := Lib.hid hf; clear ha hf))
   go_returns
   exact ⟨(Fr.of_below B2.out).trans (F3.out.mono (fun i e => .inl e)), rfl, _, _, _, R3.out⟩
  ·have hE : doE t ⟨2, ro, no, sl, bs⟩ = acE t.a (ro : Int) (no : Int) (sl : Int) (sB bs) := rfl
   have hS : doS t ⟨2, ro, no, sl, bs⟩ = ⟨acS t.a (ro : Int) (no : Int) (sl : Int) (sB bs), t.l⟩ := rfl
   simp only []
   rw [hE, hS]
   clear hE hS
   go_enter Tryz.func105, Tryz.ntmps105
   go_wp2_with (first
    | (go_at_call 25; refine HP.out.mono ?_; intro e w2 hr; unfold RPost at hr; rw [hp] at hr; obtain ⟨rfl, hb⟩ := hr; have HB := Lib.hid (H.out.below (bchain hb (box_below w2 (.cells #[.int .i64 (ro : Int), .int .i64 (no : Int)] 24)))); have B2 := Lib.hid (bchain hb (box_below w2 (.cells #[.int .i64 (ro : Int), .int .i64 (no : Int)] 24))); clear hb)
    | (go_at_call 41; refine (raccept_any (ro : Int) (no : Int) (sl : Int) (sB bs) HB.out.ac).mono ?_; rintro e w3 ⟨rfl, av', ha, hf⟩; have R3 := Lib.hid (HB.out.withA ha hf); have F3 := Lib.hid hf; clear ha hf))
   go_returns
   exact ⟨(Fr.of_below B2.out).trans (F3.out.mono (fun i e => .inl e)), rfl, _, _, _, R3.out⟩
  ·have hE : doE t ⟨3, ro, no, sl, bs⟩ = lputE t.l (sl : Int) (sB bs) := rfl
   have hS : doS t ⟨3, ro, no, sl, bs⟩ = ⟨t.a, lputS t.l (sl : Int) (sB bs)⟩ := rfl
   simp only []
   rw [hE, hS]
   clear hE hS
   go_enter Tryz.func105, Tryz.ntmps105
   go_wp2_with (first
    | (go_at_call 25; refine HP.out.mono ?_; intro e w2 hr; unfold RPost at hr; rw [hp] at hr; obtain ⟨rfl, hb⟩ := hr; have HB := Lib.hid (H.out.below (bchain hb (box_below w2 (.cells #[.int .i64 (ro : Int), .int .i64 (no : Int)] 24)))); have B2 := Lib.hid (bchain hb (box_below w2 (.cells #[.int .i64 (ro : Int), .int .i64 (no : Int)] 24))); clear hb)
    | (go_at_call 43; refine (rlput_any (sl : Int) (sB bs) HB.out.lg).mono ?_; rintro e w3 ⟨rfl, lv', l', hs⟩; have R3 := Lib.hid (HB.out.withL (Nat.le_trans hlo B2.out.size) hs); have F3 := Lib.hid hs.fr; clear hs))
   go_returns
   exact ⟨(Fr.of_below B2.out).trans (F3.out.mono (fun i e => .inr e)), rfl, _, _, _, R3.out⟩
end Go.Proofs.YtlfikhblmbidmaaGreatDoor
namespace Go.Proofs.YtlfikhblmbidmaaGreatDoor
open Go.RowKit Go.Maps
def RRcP (w : World) (o : Option NSt) (e : Ending) (w' : World) : Prop :=
 Below w.heap.size w w' ∧ match o with
 | none => e = .returned (.tuple #[.pointer none, .pointer none, .int .i64 10])
 | some t => ∃ a av q lv l, e = .returned (.tuple #[.pointer (some ⟨a, 0, none⟩), .pointer (some ⟨q, 0, none⟩), .int .i64 0]) ∧ RNS w' w.heap.size a av q lv l t
theorem RRcP.none_ {w w' : World} (hb : Below w.heap.size w w') : RRcP w none (.returned (.tuple #[.pointer none, .pointer none, .int .i64 10])) w' := ⟨hb, rfl⟩
theorem RecRow.lower_ {W : World} {lo lo' : Nat} {v : Value} {xs : List RecX} (h : RecRow W lo v xs) (k : lo' ≤ lo) : RecRow W lo' v xs := ⟨World.ownsRow.mono h.row k, fun x hx => (h.rows x hx).lower k⟩
theorem RNS.lower_ {W : World} {lo lo' a q : Nat} {av lv : Value} {l : VL} {t : NSt} (h : RNS W lo a av q lv l t) (k : lo' ≤ lo) : RNS W lo' a av q lv l t := ⟨h.ac, h.lg, Nat.le_trans k h.la, Nat.le_trans k h.lq, fun i e => Nat.le_trans k (h.ll i e)⟩
set_option maxRecDepth 100000 in
set_option maxHeartbeats 8000000 in
theorem rrecover_any {w : World} {p : Nat} {v sv : Value} {ds : DSt} (n : Int) (hn : okN n) (h : RDk w p v sv ds) (hg : DGood ds) :
  Calls Tryz.prog 32 #[.int .i64 n, .pointer (some ⟨p, 0, none⟩)] w (RRcP w (recO n ds)) := by
 have H := Lib.hid h
 have HN0 := Lib.hid (rnew_yes n w hn)
 have hst : ds.st.length ≤ 100000000 := by have := hg.st; omega
 have HOK := Lib.hid hn
 clear h hn
 cases hs : ds.has with
 | false =>
  rw [show recO n ds = recR (newN n) (allF ds.b).1 by unfold recO; rw [if_neg (by rw [hs]; decide)]]
  obtain ⟨t0, ht0⟩ : ∃ t0, newN n = t0 := ⟨_, rfl⟩
  rw [ht0]
  have HT0 := Lib.hid ht0
  clear ht0
  go_enter Tryz.func32, Tryz.ntmps32
  go_wp2_with (first
  | (go_at_call 100; refine HN0.out.mono ?_; rintro e w2 ⟨a, rfl, ha, hla, hb⟩; have A2 := Lib.hid ha; have B2 := Lib.hid hb; have HLA := Lib.hid hla; clear ha hb hla)
  | (go_at_call 101; refine (rlnew_any _).mono ?_; rintro e w3 ⟨q, rfl, hgl, hlq, hb⟩; have BX := Lib.hid (bchain B2.out hb); have NX := Lib.hid (show RNS w3 w.heap.size a (.slice none 0 0) q (.slice none 0 0) [] t0 by rw [← HT0.out]; exact ⟨A2.out.below hb, hgl, HLA.out, Nat.le_trans B2.out.size hlq, fun i e => by cases e⟩); clear hgl hb hlq)
  | (go_at_call 102; refine (rdsnap_no (H.out.below BX.out) hs).mono ?_; rintro e w4 ⟨rfl, rfl⟩)
  | (go_at_call 104; refine (rdrecords_any (H.out.below BX.out) hg).mono ?_; rintro e w6 ⟨vo, xs, rfl, hxs, hr, hb6⟩; obtain ⟨A6, c6, rfl⟩ := row_len hr.row; have HB6 := Lib.hid hb6; have HR6 := Lib.hid (RecRow.lower_ hr BX.out.size); have HXS := Lib.hid hxs; clear hb6 hr hxs))
  obtain ⟨av0, hav0⟩ : ∃ av0 : Value, Value.slice none 0 0 = av0 := ⟨_, rfl⟩
  obtain ⟨l0, hl0⟩ : ∃ l0 : VL, [] = l0 := ⟨_, rfl⟩
  obtain ⟨lv0, hlv0⟩ : ∃ lv0 : Value, Value.slice none 0 0 = lv0 := ⟨_, rfl⟩
  have NX : Hid (RNS w3 w.heap.size a av0 q lv0 l0 t0) := by rw [← hav0, ← hl0, ← hlv0]; exact NX.out
  clear hav0 hl0 hlv0 A2 B2 HLA HN0 HT0
  have HB := Lib.hid (bchain BX.out HB6.out)
  have HN := Lib.hid (NX.out.below HB6.out)
  have hsz : ∀ x ∈ xs, x.2.length ≤ 65536 := fun x hx => allF_sizes _ _ (Nat.le_refl _) x.2 (by rw [← HXS.out]; exact List.mem_map_of_mem hx)
  have hcnt : xs.length ≤ 16777216 := by
   have h1 := allF_count _ ds.b (Nat.le_refl _)
   have h2 := hg.most
   rw [← HXS.out, List.length_map] at h1
   omega
  have HSZ := Lib.hid hsz
  clear hsz HB6 NX BX H
  go_loopw [14] (fun c wr => ∃ (i : Nat) (s : NSt) (avi lvi : Value) (li : VL), i ≤ xs.length ∧ c = .int .i64 (i : Int) ∧ RNS wr w.heap.size a avi q lvi li s ∧ Below w.heap.size w wr ∧ RecRow wr w.heap.size (.slice A6 xs.length c6) xs ∧ recR t0 (xs.map (·.2)) = recR s ((xs.drop i).map (·.2))) (fun c _ => xs.length - (intOf c).toNat)
  case atStart => exact ⟨0, t0, av0, lv0, l0, Nat.zero_le _, rfl, HN.out, HB.out, HR6.out, by simp⟩
  case round =>
   obtain ⟨i, s, avi, lvi, li, hi, rfl, hS, hB, hR, hrec⟩ := hrel
   rename World => X
   by_cases hlt : i < xs.length
   ·obtain ⟨y, hy⟩ : ∃ y, xs[i]? = some y := ⟨_, List.getElem?_eq_getElem hlt⟩
    obtain ⟨yv, yb⟩ := y
    obtain ⟨g, c, hA, hcell, hgl⟩ := row_at hR.row (show (xs.map (·.1))[i]? = some yv by rw [List.getElem?_map, hy]; rfl)
    obtain ⟨rfl, rfl⟩ : A6 = some ⟨g, 0, none⟩ ∧ c6 = c := by simpa using hA
    have hrow : RowB w.heap.size X yv yb := hR.rows (yv, yb) (List.mem_of_getElem? hy)
    have hys : yb.length ≤ 65536 := HSZ.out (yv, yb) (List.mem_of_getElem? hy)
    have hdrop : (xs.drop i).map (·.2) = yb :: ((xs.drop (i + 1)).map (·.2)) := by
     rw [List.drop_eq_getElem_cons hlt, List.map_cons]
     rw [List.getElem?_eq_getElem hlt] at hy
     rw [Option.some.inj hy]
    rw [hdrop] at hrec
    have HDO := Lib.hid (rdo_any hS hB.size yv yb (LRow.bsIn (LRow.of_row hrow)) (by omega))
    obtain ⟨ya, yc, rfl⟩ := row_len hrow
    have HS := Lib.hid hS
    have HBX := Lib.hid hB
    have HRX := Lib.hid hR
    have HREC := Lib.hid hrec
    unfold RDoP at HDO
    clear hS hB hR hrec hrow hA hdrop hy
    cases hp : parseP yb with
    | none =>
     rw [hp] at HDO
     dsimp only at HDO
     have HPP := Lib.hid hp
     clear hp
     go_wp2_with (go_at_call 105; refine HDO.out.mono ?_; rintro e X2 ⟨hf, rfl⟩; have B2 := Lib.hid (HBX.out.trans (hf.below HBX.out.size HS.out.low)); clear hf)
     go_returns
     rw [← HXS.out, HREC.out, recR_none HPP.out]
     exact RRcP.none_ B2.out
    | some x =>
     rw [hp] at HDO
     dsimp only at HDO
     have HPP := Lib.hid hp
     clear hp
     by_cases hd : doE s x = 0
     ·have hd' : (doE s x == 0) = true := by simpa using hd
      rw [hd'] at HDO
      have HD := Lib.hid hd
      clear hd hd'
      go_wp2_with (go_at_call 105; refine HDO.out.mono ?_; rintro e X2 ⟨hf, rfl, av2, lv2, l2, hn2⟩; have B2 := Lib.hid (HBX.out.trans (hf.below HBX.out.size HS.out.low)); have N2 := Lib.hid hn2; have R2 := Lib.hid (HRX.out.keep (HS.out.keepT (fun i e => e) hf _ (by decide) (by decide) (by decide)) (HS.out.keepT (fun i e => e) hf _ (by decide) (by decide) (by decide))); clear hf hn2)
      go_roundw
      case rel => exact ⟨i + 1, doS s x, av2, lv2, l2, by omega, by go_num, N2.out, B2.out, R2.out, by rw [HREC.out, recR_step HPP.out HD.out]⟩
      case measure => simp [intOf]; omega
     ·have hd' : (doE s x == 0) = false := by simpa using hd
      rw [hd'] at HDO
      have HD := Lib.hid hd
      clear hd hd'
      go_wp2_with (go_at_call 105; refine HDO.out.mono ?_; rintro e X2 ⟨hf, rfl, _⟩; have B2 := Lib.hid (HBX.out.trans (hf.below HBX.out.size HS.out.low)); clear hf)
      go_returns
      rw [← HXS.out, HREC.out, recR_bad HPP.out HD.out]
      exact RRcP.none_ B2.out
   ·have hil : i = xs.length := by omega
    rw [hil, List.drop_length] at hrec
    have HREC := Lib.hid hrec
    have HS := Lib.hid hS
    have HBX := Lib.hid hB
    clear hS hB hR hrec
    subst hil
    go_wp2_with fail
    go_returns
    rw [← HXS.out, HREC.out]
    exact ⟨HBX.out, a, avi, q, lvi, li, rfl, HS.out⟩
 | true =>
  cases hld : loadS n ds.st with
  | none =>
   rw [show recO n ds = none by unfold recO; rw [if_pos hs, hld]; rfl]
   go_enter Tryz.func32, Tryz.ntmps32
   go_wp2_with (first
   | (go_at_call 100; refine HN0.out.mono ?_; rintro e w2 ⟨a, rfl, ha, hla, hb⟩; have B2 := Lib.hid hb; clear ha hb hla)
   | (go_at_call 101; refine (rlnew_any _).mono ?_; rintro e w3 ⟨q, rfl, hgl, hlq, hb⟩; have B3 := Lib.hid (bchain B2.out hb); clear hgl hb hlq)
   | (go_at_call 102; refine (rdsnap_yes (H.out.below B3.out) hs hst).mono ?_; rintro e w4 ⟨vo, rfl, hr, hb⟩; obtain ⟨Av, cv, rfl⟩ := row_len hr; have B4 := Lib.hid (bchain B3.out hb); have V4 := Lib.hid hr.bsIn; clear hr hb)
   | (go_at_call 103; refine (rload_any n HOK.out _ ds.st _ V4.out hst).mono ?_; intro e w5 hr; unfold LdPost at hr; rw [hld] at hr; obtain ⟨hb, rfl⟩ := hr; have B5 := Lib.hid (bchain B4.out hb); clear hb))
   go_returns
   exact RRcP.none_ B5.out
  | some t0 =>
  rw [show recO n ds = recR t0 (allF ds.b).1 by unfold recO; rw [if_pos hs, hld]; rfl]
  go_enter Tryz.func32, Tryz.ntmps32
  go_wp2_with (first
  | (go_at_call 100; refine HN0.out.mono ?_; rintro e w2 ⟨a0, rfl, ha, hla, hb⟩; have B2 := Lib.hid hb; clear ha hb hla)
  | (go_at_call 101; refine (rlnew_any _).mono ?_; rintro e w3 ⟨q0, rfl, hgl, hlq, hb⟩; have B3 := Lib.hid (bchain B2.out hb); clear hgl hb hlq)
  | (go_at_call 102; refine (rdsnap_yes (H.out.below B3.out) hs hst).mono ?_; rintro e w4 ⟨vo, rfl, hr, hb⟩; obtain ⟨Av, cv, rfl⟩ := row_len hr; have B4 := Lib.hid (bchain B3.out hb); have V4 := Lib.hid hr.bsIn; clear hr hb)
  | (go_at_call 103; refine (rload_any n HOK.out _ ds.st _ V4.out hst).mono ?_; intro e w5 hr; unfold LdPost at hr; rw [hld] at hr; obtain ⟨hb, a, av0, q, lv0, l0, rfl, hns⟩ := hr; have BX := Lib.hid (bchain B4.out hb); have NX := Lib.hid (hns.lower_ B4.out.size); clear hb hns)
  | (go_at_call 104; refine (rdrecords_any (H.out.below BX.out) hg).mono ?_; rintro e w6 ⟨vo, xs, rfl, hxs, hr, hb6⟩; obtain ⟨A6, c6, rfl⟩ := row_len hr.row; have HB6 := Lib.hid hb6; have HR6 := Lib.hid (RecRow.lower_ hr BX.out.size); have HXS := Lib.hid hxs; clear hb6 hr hxs))
  clear B2 B3 B4 V4 HN0
  have HB := Lib.hid (bchain BX.out HB6.out)
  have HN := Lib.hid (NX.out.below HB6.out)
  have hsz : ∀ x ∈ xs, x.2.length ≤ 65536 := fun x hx => allF_sizes _ _ (Nat.le_refl _) x.2 (by rw [← HXS.out]; exact List.mem_map_of_mem hx)
  have hcnt : xs.length ≤ 16777216 := by
   have h1 := allF_count _ ds.b (Nat.le_refl _)
   have h2 := hg.most
   rw [← HXS.out, List.length_map] at h1
   omega
  have HSZ := Lib.hid hsz
  clear hsz HB6 NX BX H
  go_loopw [14] (fun c wr => ∃ (i : Nat) (s : NSt) (avi lvi : Value) (li : VL), i ≤ xs.length ∧ c = .int .i64 (i : Int) ∧ RNS wr w.heap.size a avi q lvi li s ∧ Below w.heap.size w wr ∧ RecRow wr w.heap.size (.slice A6 xs.length c6) xs ∧ recR t0 (xs.map (·.2)) = recR s ((xs.drop i).map (·.2))) (fun c _ => xs.length - (intOf c).toNat)
  case atStart => exact ⟨0, t0, av0, lv0, l0, Nat.zero_le _, rfl, HN.out, HB.out, HR6.out, by simp⟩
  case round =>
   obtain ⟨i, s, avi, lvi, li, hi, rfl, hS, hB, hR, hrec⟩ := hrel
   rename World => X
   by_cases hlt : i < xs.length
   ·obtain ⟨y, hy⟩ : ∃ y, xs[i]? = some y := ⟨_, List.getElem?_eq_getElem hlt⟩
    obtain ⟨yv, yb⟩ := y
    obtain ⟨g, c, hA, hcell, hgl⟩ := row_at hR.row (show (xs.map (·.1))[i]? = some yv by rw [List.getElem?_map, hy]; rfl)
    obtain ⟨rfl, rfl⟩ : A6 = some ⟨g, 0, none⟩ ∧ c6 = c := by simpa using hA
    have hrow : RowB w.heap.size X yv yb := hR.rows (yv, yb) (List.mem_of_getElem? hy)
    have hys : yb.length ≤ 65536 := HSZ.out (yv, yb) (List.mem_of_getElem? hy)
    have hdrop : (xs.drop i).map (·.2) = yb :: ((xs.drop (i + 1)).map (·.2)) := by
     rw [List.drop_eq_getElem_cons hlt, List.map_cons]
     rw [List.getElem?_eq_getElem hlt] at hy
     rw [Option.some.inj hy]
    rw [hdrop] at hrec
    have HDO := Lib.hid (rdo_any hS hB.size yv yb (LRow.bsIn (LRow.of_row hrow)) (by omega))
    obtain ⟨ya, yc, rfl⟩ := row_len hrow
    have HS := Lib.hid hS
    have HBX := Lib.hid hB
    have HRX := Lib.hid hR
    have HREC := Lib.hid hrec
    unfold RDoP at HDO
    clear hS hB hR hrec hrow hA hdrop hy
    cases hp : parseP yb with
    | none =>
     rw [hp] at HDO
     dsimp only at HDO
     have HPP := Lib.hid hp
     clear hp
     go_wp2_with (go_at_call 105; refine HDO.out.mono ?_; rintro e X2 ⟨hf, rfl⟩; have B2 := Lib.hid (HBX.out.trans (hf.below HBX.out.size HS.out.low)); clear hf)
     go_returns
     rw [← HXS.out, HREC.out, recR_none HPP.out]
     exact RRcP.none_ B2.out
    | some x =>
     rw [hp] at HDO
     dsimp only at HDO
     have HPP := Lib.hid hp
     clear hp
     by_cases hd : doE s x = 0
     ·have hd' : (doE s x == 0) = true := by simpa using hd
      rw [hd'] at HDO
      have HD := Lib.hid hd
      clear hd hd'
      go_wp2_with (go_at_call 105; refine HDO.out.mono ?_; rintro e X2 ⟨hf, rfl, av2, lv2, l2, hn2⟩; have B2 := Lib.hid (HBX.out.trans (hf.below HBX.out.size HS.out.low)); have N2 := Lib.hid hn2; have R2 := Lib.hid (HRX.out.keep (HS.out.keepT (fun i e => e) hf _ (by decide) (by decide) (by decide)) (HS.out.keepT (fun i e => e) hf _ (by decide) (by decide) (by decide))); clear hf hn2)
      go_roundw
      case rel => exact ⟨i + 1, doS s x, av2, lv2, l2, by omega, by go_num, N2.out, B2.out, R2.out, by rw [HREC.out, recR_step HPP.out HD.out]⟩
      case measure => simp [intOf]; omega
     ·have hd' : (doE s x == 0) = false := by simpa using hd
      rw [hd'] at HDO
      have HD := Lib.hid hd
      clear hd hd'
      go_wp2_with (go_at_call 105; refine HDO.out.mono ?_; rintro e X2 ⟨hf, rfl, _⟩; have B2 := Lib.hid (HBX.out.trans (hf.below HBX.out.size HS.out.low)); clear hf)
      go_returns
      rw [← HXS.out, HREC.out, recR_bad HPP.out HD.out]
      exact RRcP.none_ B2.out
   ·have hil : i = xs.length := by omega
    rw [hil, List.drop_length] at hrec
    have HREC := Lib.hid hrec
    have HS := Lib.hid hS
    have HBX := Lib.hid hB
    clear hS hB hR hrec
    subst hil
    go_wp2_with fail
    go_returns
    rw [← HXS.out, HREC.out]
    exact ⟨HBX.out, a, avi, q, lvi, li, rfl, HS.out⟩
end Go.Proofs.YtlfikhblmbidmaaGreatDoor
namespace Go.Proofs.YtlfikhblmbidmaaGreatDoor
open Go.RowKit Go.Maps Go.Shelf Go.ChangeShapes Go.WideShapes Go.Deep
theorem lgFQ_len (L : VL) : ∀ (n : Nat) (u : Int), (lgapsF L u n).length ≤ n
 | 0, _ => Nat.le_refl _
 | n + 1, u => by
  have := lgFQ_len L n (u + 1)
  rw [lgapsF, List.length_append]
  split <;> simp <;> omega
theorem lpreQ_len (L : VL) : ∀ (n : Nat) (u : Int), (lpre L u n).length ≤ n
 | 0, _ => Nat.le_refl _
 | n + 1, u => by
  have := lpreQ_len L n (u + 1)
  rw [lpre]
  cases get u L <;> simp <;> omega
theorem lgapsQ_len {s : LogSt} (h : LGood s) : (lgaps s).length ≤ 4096 := by
 have := lgFQ_len s.L (s.top - s.upto).toNat s.upto
 have := h.t1
 have := h.bu
 have := h.b0
 unfold lgaps
 omega
theorem lprefixQ_len {s : LogSt} (h : LGood s) : (lprefix s).length ≤ 4096 := by
 have := lpreQ_len s.L (s.top - s.base).toNat s.base
 have := h.t1
 have := h.b0
 unfold lprefix
 omega
set_option maxRecDepth 100000 in
set_option maxHeartbeats 4000000 in
theorem alike_any {w : World} {a m l k lo ra rq : Nat} {rav rlv : Value} {rl : VL} {t : NSt} (h1 : NS w a m l k t) (h2 : RNS w lo ra rav rq rlv rl t) :
  Calls Tryz.prog 35 #[.pointer (some ⟨a, 0, none⟩), .pointer (some ⟨l, 0, none⟩), .pointer (some ⟨ra, 0, none⟩), .pointer (some ⟨rq, 0, none⟩)] w fun e w' => e = .returned (.bool true) ∧ Below w.heap.size w w' := by
 have N0 := Lib.hid h1
 have R0 := Lib.hid h2
 have B0 := Lib.hid (Below.refl w.heap.size w)
 have hla := h1.a.good.list0
 have hlen := h1.a.good.len
 have hgl : (lgaps t.l).length ≤ 1000000000 := by have := lgapsQ_len h1.l.good; omega
 have hpl : (lprefix t.l).length ≤ 1000000000 := by have := lprefixQ_len h1.l.good; omega
 clear h1 h2
 have hE24 := fun (a b c d : Int) (w : World) => eqBal a b c d w
 have hG24 := eqGBal
 go_enter Tryz.func35, Tryz.ntmps35
 go_wp2_with (first
  | (go_at_call 77; refine (promised_S a m t.a _ N0.out.a).mono ?_; rintro e w1 ⟨rfl, hb⟩; have N1 := Lib.hid (N0.out.below hb); have R1 := Lib.hid (R0.out.below hb); have B1 := Lib.hid (bchain B0.out hb); clear hb N0 R0)
  | (go_at_call 107; refine (rpromised_any ra rav t.a _ R1.out.ac).mono ?_; rintro e w2 ⟨rfl, hb⟩; have N2 := Lib.hid (N1.out.below hb); have R2 := Lib.hid (R1.out.below hb); have B2 := Lib.hid (bchain B1.out hb); clear hb N1 R1)
  | (go_at_call 79; refine (base_S a m t.a _ N2.out.a).mono ?_; rintro e w3 ⟨rfl, rfl⟩; have N3 := N2; have R3 := R2; have B3 := B2; clear N2 R2)
  | (go_at_call 108; refine (rbase_any ra rav t.a _ R3.out.ac).mono ?_; rintro e w4 ⟨rfl, rfl⟩; have N4 := N3; have R4 := R3; have B4 := B3; clear N3 R3)
  | (go_at_call 78; refine (list_S a m t.a _ 0 N4.out.a).mono ?_; rintro e w5 ⟨va, rfl, hv, hb⟩; rw [hla] at hv; obtain ⟨A1, n1, k1, rfl⟩ := row_shape hv; have RA5 := Lib.hid hv; have N5 := Lib.hid (N4.out.below hb); have R5 := Lib.hid (R4.out.below hb); have B5 := Lib.hid (bchain B4.out hb); clear hb N4 R4)
  | (go_at_call 110; refine (rlist_any ra rav t.a 0 _ R5.out.ac).mono ?_; rintro e w6 ⟨vb, rfl, hv, hb⟩; rw [hla] at hv; obtain ⟨A2, n2, k2, rfl⟩ := row_shape hv; have RB := Lib.hid hv; have RA := Lib.hid (RA5.out.below hb); have N6 := Lib.hid (N5.out.below hb); have R6 := Lib.hid (R5.out.below hb); have B6 := Lib.hid (bchain B5.out hb); clear hb N5 R5)
  | (go_at_call 109; refine (eqEnts _ _ _ _ t.a.L _ RA.out RB.out (by omega)).mono ?_; rintro e w7 ⟨rfl, hb⟩; have N7 := Lib.hid (N6.out.below hb); have R7 := Lib.hid (R6.out.below hb); have B7 := Lib.hid (bchain B6.out hb); clear hb N6 R6)
  | (go_at_call 81; refine (lbase_any (m := k) (s := t.l) N7.out.l.at_).mono ?_; rintro e w8 ⟨rfl, rfl⟩; have N8 := N7; have R8 := R7; have B8 := B7; clear N7 R7)
  | (go_at_call 111; refine (rlbase_any R8.out.lg).mono ?_; rintro e w9 ⟨rfl, rfl⟩; have N9 := N8; have R9 := R8; have B9 := B8; clear N8 R8)
  | (go_at_call 63; refine (lupto_any (m := k) (s := t.l) N9.out.l.at_).mono ?_; rintro e w10 ⟨rfl, rfl⟩; have N10 := N9; have R10 := R9; have B10 := B9; clear N9 R9)
  | (go_at_call 112; refine (rlupto_any R10.out.lg).mono ?_; rintro e w11 ⟨rfl, rfl⟩; have N11 := N10; have R11 := R10; have B11 := B10; clear N10 R10)
  | (go_at_call 114; refine (lprefix_any (m := k) (s := t.l) N11.out.l.at_ N11.out.l.good).mono ?_; rintro e w12 ⟨vc, rfl, hv, hb⟩; obtain ⟨AC, nC, kC, rfl⟩ := row_shape hv; have RC0 := Lib.hid hv; have N12 := Lib.hid (N11.out.below hb); have R12 := Lib.hid (R11.out.below hb); have B12 := Lib.hid (bchain B11.out hb); clear hb N11 R11)
  | (go_at_call 115; refine (rlprefix_any R12.out.lg).mono ?_; rintro e w13 ⟨vd, rfl, hv, hb⟩; obtain ⟨AD, nD, kD, rfl⟩ := row_shape hv; have RD := Lib.hid hv; have RC := Lib.hid (row_fr RC0.out (Fr.of_below hb : Fr Go.Proofs.YtlfikhblmbidmaaGreatDoor.S0 _ _) (fun _ _ e => e)); have N13 := Lib.hid (N12.out.below hb); have R13 := Lib.hid (R12.out.below hb); have B13 := Lib.hid (bchain B12.out hb); clear hb N12 R12)
  | (go_at_call 113; refine (eqStrs _ _ _ _ (lprefix t.l) _ RC.out RD.out (by omega)).mono ?_; rintro e w14 ⟨rfl, hb⟩; have N14 := Lib.hid (N13.out.below hb); have R14 := Lib.hid (R13.out.below hb); have B14 := Lib.hid (bchain B13.out hb); clear hb N13 R13)
  | (go_at_call 117; refine (lgaps_any (m := k) (s := t.l) N14.out.l.at_ N14.out.l.good).mono ?_; rintro e w15 ⟨ve, rfl, hv, hb⟩; obtain ⟨AE, nE, kE, rfl⟩ := row_shape hv; have RE0 := Lib.hid hv; have N15 := Lib.hid (N14.out.below hb); have R15 := Lib.hid (R14.out.below hb); have B15 := Lib.hid (bchain B14.out hb); clear hb N14 R14)
  | (go_at_call 118; refine (rlgaps_any R15.out.lg).mono ?_; rintro e w16 ⟨vf, rfl, hv, hb⟩; obtain ⟨AF, nF, kF, rfl⟩ := row_shape hv; have RF := Lib.hid hv; have RE := Lib.hid (row_fr RE0.out (Fr.of_below hb : Fr Go.Proofs.YtlfikhblmbidmaaGreatDoor.S0 _ _) (fun _ _ e => e)); have N16 := Lib.hid (N15.out.below hb); have R16 := Lib.hid (R15.out.below hb); have B16 := Lib.hid (bchain B15.out hb); clear hb N15 R15)
  | (go_at_call 116; refine (eqInts _ _ _ _ (lgaps t.l) _ RE.out RF.out (by omega)).mono ?_; rintro e w17 ⟨rfl, hb⟩; have N17 := Lib.hid (N16.out.below hb); have R17 := Lib.hid (R16.out.below hb); have B17 := Lib.hid (bchain B16.out hb); clear hb N16 R16))
 go_returns
 exact ⟨rfl, B17.out⟩
def RecsIn (w : World) (v : Value) (L : List (Value × List Int)) : Prop :=
 ∃ A cap, v = .slice A L.length cap ∧ L.length ≤ cap ∧ cap ≤ maxLen ∧ (∀ x ∈ L, BytesIn w x.1 x.2) ∧
  (0 < L.length → ∃ b off, A = some ⟨b, off, none⟩ ∧ b < w.heap.size ∧ ∀ i x, L[i]? = some x → w.cell? ⟨b, off + i, none⟩ = some x.1)
theorem BytesIn.below_ {w w' : World} {v : Value} {zs : List Int} (h : BytesIn w v zs) (hb : Below w.heap.size w w') : BytesIn w' v zs := by
 obtain ⟨A, cap, h1, h2, h3, h4, h5⟩ := h
 refine ⟨A, cap, h1, h2, h3, h4, fun h0 => ?_⟩
 obtain ⟨b, off, hA, hlt, hc⟩ := h5 h0
 exact ⟨b, off, hA, Nat.lt_of_lt_of_le hlt hb.size, fun i z hz => bcell hb (hc i z hz)⟩
theorem RecsIn.of_trod {H : Type} {enc : TypeId × Value → H} {w : World} {base : Nat} {spare : Nat → Bool} {held : Bool} {a0 : Option Addr} {len0 cap0 : Nat} {d : DataW H} {p : List MemPlace}
  (h : DataW.Trod enc Tryz.prog w base spare held 49 (.slice a0 len0 cap0) d p) : ∃ L, RecsIn w (.slice a0 len0 cap0) L := by
 obtain ⟨fuel, hf⟩ := h
 rcases open_slice1 Tryz.underlying49 (by kernel_rfl) hf with ⟨hcs, _⟩ | ⟨a, len, cap, m, n, V, D, Pl, hcs, hb, hl, hm, hmm, _, hi⟩
 ·simp [Value.cells] at hcs
  obtain ⟨rfl, rfl, rfl⟩ := hcs
  exact ⟨[], none, 0, rfl, Nat.le_refl _, Nat.zero_le _, fun s hs => by simp at hs, fun h => absurd h (by simp)⟩
 ·simp [Value.cells] at hcs
  obtain ⟨rfl, rfl, rfl⟩ := hcs
  have hlm : len0 ≤ m := by rw [hmm]; split <;> omega
  have hall : ∀ i, i < len0 → ∃ zs, BytesIn w (V i) zs := by
   intro i hi'
   obtain ⟨hc, ht⟩ := hi i (by omega)
   have hsl : ∃ a l c, V i = .slice a l c := by
    rcases open_ints Tryz.underlying26 Tryz.underlying5 (by kernel_rfl) ht with ⟨hcs, _⟩ | ⟨a, l, c, zs, hcs, _⟩
    ·simp at hcs
     exact ⟨_, _, _, hcs⟩
    ·simp at hcs
     exact ⟨_, _, _, hcs⟩
   obtain ⟨a', l', c', hv⟩ := hsl
   rw [hv] at ht ⊢
   exact BytesIn.of_trod ⟨_, ht⟩
  obtain ⟨f, hf1⟩ : ∃ f : Nat → List Int, ∀ i, i < len0 → BytesIn w (V i) (f i) :=
   ⟨fun i => if h : i < len0 then Classical.choose (hall i h) else [], fun i hi => by simp only [dif_pos hi]; exact Classical.choose_spec (hall i hi)⟩
  have hlen : ((List.range len0).map fun i => (V i, f i)).length = len0 := by simp
  refine ⟨(List.range len0).map fun i => (V i, f i), some a, cap0, by rw [hlen], by rw [hlen]; exact hl, hm, fun s hs => ?_, fun h0 => ?_⟩
  ·simp only [List.mem_map, List.mem_range] at hs
   obtain ⟨i, hi', rfl⟩ := hs
   exact hf1 i hi'
  ·rw [hlen] at h0
   obtain ⟨b, off, spot⟩ := a
   have h1 := (hi 0 (by omega)).1
   have hspot : spot = none := by simpa [Addr.add] using World.cell?_spot h1
   subst hspot
   refine ⟨b, off, rfl, ?_, fun i s hs => ?_⟩
   ·obtain ⟨o, ho, _⟩ := cells_of_cell h1
    have := (Array.getElem?_eq_some_iff.1 ho).1
    simpa [Addr.add] using this
   ·simp only [List.getElem?_map, Option.map_eq_some_iff] at hs
    obtain ⟨i', hi', rfl⟩ := hs
    obtain ⟨hi2, rfl⟩ := List.getElem?_eq_some_iff.1 hi'
    simp only [List.length_range] at hi2
    simp only [List.getElem_range]
    have := (hi i (by omega)).1
    rw [add_flat] at this
    exact this
theorem RecsIn.below {w w' : World} {v : Value} {L : List (Value × List Int)} (h : RecsIn w v L) (hb : Below w.heap.size w w') : RecsIn w' v L := by
 obtain ⟨A, cap, h1, h2, h3, h4, h5⟩ := h
 refine ⟨A, cap, h1, h2, h3, fun x hx => (h4 x hx).below_ hb, fun h0 => ?_⟩
 obtain ⟨b, off, hA, hlt, hc⟩ := h5 h0
 exact ⟨b, off, hA, Nat.lt_of_lt_of_le hlt hb.size, fun i z hz => bcell hb (hc i z hz)⟩
theorem RecsIn.at {w : World} {v : Value} {L : List (Value × List Int)} (h : RecsIn w v L) {i : Nat} {x : Value × List Int} (hx : L[i]? = some x) :
  ∃ b off cap, v = .slice (some ⟨b, off, none⟩) L.length cap ∧ w.cell? ⟨b, off + i, none⟩ = some x.1 ∧ BytesIn w x.1 x.2 := by
 obtain ⟨A, cap, h1, h2, h3, h4, h5⟩ := h
 obtain ⟨b, off, rfl, hlt, hc⟩ := h5 (by have := (List.getElem?_eq_some_iff.1 hx).1; omega)
 exact ⟨b, off, cap, h1, hc i x hx, h4 x (List.mem_of_getElem? hx)⟩
end Go.Proofs.YtlfikhblmbidmaaGreatDoor
namespace Go.Proofs.YtlfikhblmbidmaaGreatDoor
open Go.RowKit Go.Maps
structure TwoD (w X : World) (dp dq : Nat) (dv dsv : Value) (rp : Nat) (rv rsv : Value) (ds es : DSt) : Prop where
 d : DiskAt X dp dq dv dsv ds
 r : RDk X rp rv rsv es
 bel : Below w.heap.size w X
 dlo : ∀ i, dF dp dq dv dsv i → w.heap.size ≤ i
 rlo : ∀ i, rdF rp rv rsv i → w.heap.size ≤ i
 ne : ∀ i, dF dp dq dv dsv i → ¬ rdF rp rv rsv i
namespace TwoD
variable {w X Y : World} {dp dq rp : Nat} {dv dsv rv rsv dv' dsv' rv' rsv' : Value} {ds es ds' es' : DSt}
theorem below (h : TwoD w X dp dq dv dsv rp rv rsv ds es) (k : Below X.heap.size X Y) : TwoD w Y dp dq dv dsv rp rv rsv ds es :=
 ⟨h.d.below k, h.r.below k, h.bel.trans (k.mono h.bel.size), h.dlo, h.rlo, h.ne⟩
theorem dstep (h : TwoD w X dp dq dv dsv rp rv rsv ds es) (k : DStep X dp dq dv dsv Y dv' dsv' ds') : TwoD w Y dp dq dv' dsv' rp rv rsv ds' es :=
  ⟨k.at_, h.r.fr k.fr (fun i e e2 => h.ne i e2 e), h.bel.trans (k.fr.below h.bel.size h.dlo), fun i e => (k.own i e).elim (h.dlo i) (fun e => Nat.le_trans h.bel.size e), h.rlo,
   fun i e e2 => (k.own i e).elim (fun e3 => h.ne i e3 e2) (fun e3 => by have := h.r.lt e2; omega)⟩
theorem rstep (h : TwoD w X dp dq dv dsv rp rv rsv ds es) (k : RDStep X rp rv rsv Y rv' rsv' es') : TwoD w Y dp dq dv dsv rp rv' rsv' ds es' :=
  ⟨h.d.fr k.fr (fun i e e2 => h.ne i e (.inl e2)), k.at_, h.bel.trans (k.fr.below h.bel.size (fun i e => h.rlo i (.inl e))), h.dlo, fun i e => (k.own i e).elim (h.rlo i) (fun e => Nat.le_trans h.bel.size e),
   fun i e e2 => (k.own i e2).elim (fun e3 => h.ne i e e3) (fun e3 => by have := h.d.lt e; omega)⟩
end TwoD
end Go.Proofs.YtlfikhblmbidmaaGreatDoor