/- Laid together by gen/merge.py: StaA StaB CmpP EqB EqE WksP. -/
import Derived.Test.YtlfikhblmbidmaaGreatDoorMrgG
import Derived.Test.YtlfikhblmbidmaaGreatDoorMrgE
import Derived.Test.YtlfikhblmbidmaaGreatDoorMrgD
import Derived.Test.YtlfikhblmbidmaaGreatDoorMrgB
import Derived.Test.YtlfikhblmbidmaaGreatDoorMrgF
set_option linter.all false
namespace Go.Proofs.YtlfikhblmbidmaaGreatDoor
open Go.RowKit Go.Maps
structure NSt where
 a : ASt
 l : LogSt
def nF (p m q k i : Nat) : Prop := i = p ∨ i = m ∨ i = q ∨ i = k
structure NS (w : World) (p m q k : Nat) (s : NSt) : Prop where
 a : AS w p m s.a
 l : LS w q k s.l
 ne : m ≠ k
namespace NS
variable {w w' : World} {p m q k : Nat} {s : NSt}
theorem pq (h : NS w p m q k s) : p ≠ q := h.a.at_.blk.ne_type h.l.at_.blk (by decide)
theorem pk (h : NS w p m q k s) : p ≠ k := by
 obtain ⟨es, c, hm⟩ := h.l.at_.map.block
 exact h.a.at_.blk.ne_map hm
theorem qm (h : NS w p m q k s) : q ≠ m := by
 obtain ⟨es, c, hm⟩ := h.a.at_.map.block
 exact h.l.at_.blk.ne_map hm
theorem fr {S : Nat → Prop} (h : NS w p m q k s) (f : Fr S w w') (hS : ∀ i, nF p m q k i → ¬ S i) : NS w' p m q k s :=
 ⟨h.a.fr f (hS _ (.inl rfl)) (hS _ (.inr (.inl rfl))), h.l.fr f (fun i hi => hS i (hi.elim (fun e => .inr (.inr (.inl e))) (fun e => .inr (.inr (.inr e))))), h.ne⟩
theorem below (h : NS w p m q k s) (b : Below w.heap.size w w') : NS w' p m q k s := ⟨h.a.below b, h.l.below b, h.ne⟩
theorem lt (h : NS w p m q k s) {i : Nat} (hi : nF p m q k i) : i < w.heap.size := by
 have h1 := h.a.lt
 have h2 := h.l.lt
 rcases hi with rfl | rfl | rfl | rfl
 ·exact h1.1
 ·exact h1.2
 ·exact h2.1
 ·exact h2.2
theorem withA {t : ASt} {S : Nat → Prop} (h : NS w p m q k s) (ha : AS w' p m t) (f : Fr S w w') (hS : ∀ i, S i → i = p ∨ i = m) : NS w' p m q k ⟨t, s.l⟩ :=
 ⟨ha, h.l.fr f (fun i hi e => by
  have h1 := h.pq
  have h2 := h.pk
  have h3 := h.qm
  have h4 := h.ne
  rcases hS i e with e | e <;> rcases hi with e' | e' <;> omega), h.ne⟩
theorem withL {t : LogSt} (h : NS w p m q k s) (hl : LS w' q k t) (f : Fr (lF q k) w w') : NS w' p m q k ⟨s.a, t⟩ :=
 ⟨h.a.fr f (fun e => by
  have h1 := h.pq
  have h2 := h.pk
  rcases e with e | e <;> omega) (fun e => by
  have h3 := h.qm
  have h4 := h.ne
  rcases e with e | e <;> omega), hl, h.ne⟩
end NS
def doE (s : NSt) (x : Rec) : Int := if x.k = 1 then prE s.a x.ro x.no 0 else if x.k = 2 then acE s.a x.ro x.no x.sl (sB x.v) else lputE s.l x.sl (sB x.v)
def doS (s : NSt) (x : Rec) : NSt := if x.k = 1 then ⟨prS s.a x.ro x.no 0, s.l⟩ else if x.k = 2 then ⟨acS s.a x.ro x.no x.sl (sB x.v), s.l⟩ else ⟨s.a, lputS s.l x.sl (sB x.v)⟩
set_option maxRecDepth 100000 in
set_option maxHeartbeats 2000000 in
theorem do_any {w : World} {p m q k : Nat} {s : NSt} (x : Rec) (h : NS w p m q k s) :
  Calls Tryz.prog 75 #[.agg #[.pointer (some ⟨p, 0, none⟩), .pointer (some ⟨q, 0, none⟩)], .agg (recX x)] w fun e w' => e = .returned (.int .i64 (doE s x)) ∧ NS w' p m q k (doS s x) ∧ Fr (nF p m q k) w w' := by
 have b0 := Blk.new w 113 #[.pointer (some ⟨p, 0, none⟩), .pointer (some ⟨q, 0, none⟩)]
 have b1 := blk_new1 w (.cells #[.pointer (some ⟨p, 0, none⟩), .pointer (some ⟨q, 0, none⟩)] 113) 121 (recX x)
 have hb : Below w.heap.size w ((w.alloc (.cells #[.pointer (some ⟨p, 0, none⟩), .pointer (some ⟨q, 0, none⟩)] 113)).alloc (.cells (recX x) 121)) := ((Below.refl _ w).alloc (Nat.le_refl _) _).alloc (by simp) _
 have h2 := h.below hb
 have c0 := (b0.alloc (.cells (recX x) 121)).cell (i := 0) (v := .pointer (some ⟨p, 0, none⟩)) rfl
 have c1 := (b0.alloc (.cells (recX x) 121)).cell (i := 1) (v := .pointer (some ⟨q, 0, none⟩)) rfl
 have d0 := b1.cell (i := 0) (v := .int .i64 (x.k : Int)) rfl
 have d1 := b1.cell (i := 1) (v := .int .i64 (x.ro : Int)) rfl
 have d2 := b1.cell (i := 2) (v := .int .i64 (x.no : Int)) rfl
 have d3 := b1.cell (i := 3) (v := .int .i64 (x.sl : Int)) rfl
 have d4 := b1.cell (i := 4) (v := .string (sB x.v)) rfl
 have HB := Lib.hid hb
 have H2 := Lib.hid h2
 clear h h2 hb b0 b1
 unfold doE doS
 by_cases h1 : x.k = 1
 ·rw [if_pos h1, if_pos h1]
  have h1' : decide ((x.k : Int) = 1) = true := by simp; omega
  go_enter Tryz.func75, Tryz.ntmps75
  go_wp2_with (go_at_call 38; refine (promise_S p m s.a _ x.ro x.no 0 H2.out.a).mono ?_; rintro e w2 ⟨v, rfl, hv, ha, hf⟩; have HA := Lib.hid ha; have HF2 := Lib.hid hf; clear ha hf hv)
  go_returns
  exact ⟨rfl, H2.out.withA HA.out HF2.out (fun i e => .inl e), (Fr.of_below HB.out).trans (HF2.out.mono (fun i e => .inl e))⟩
 ·rw [if_neg h1, if_neg h1]
  have h1' : decide ((x.k : Int) = 1) = false := by simp; omega
  by_cases h2 : x.k = 2
  ·rw [if_pos h2, if_pos h2]
   have h2' : decide ((x.k : Int) = 2) = true := by simp; omega
   go_enter Tryz.func75, Tryz.ntmps75
   go_wp2_with (go_at_call 40; refine (accept_S p m s.a _ x.ro x.no x.sl (sB x.v) H2.out.a).mono ?_; rintro e w2 ⟨rfl, ha, hf⟩; have HA := Lib.hid ha; have HF2 := Lib.hid hf; clear ha hf)
   go_returns
   exact ⟨rfl, H2.out.withA HA.out HF2.out (fun i e => e), (Fr.of_below HB.out).trans (HF2.out.mono (fun i e => e.elim .inl (fun e => .inr (.inl e))))⟩
  ·rw [if_neg h2, if_neg h2]
   have h2' : decide ((x.k : Int) = 2) = false := by simp; omega
   go_enter Tryz.func75, Tryz.ntmps75
   go_wp2_with (go_at_call 42; refine (lput_any x.sl (sB x.v) H2.out.l).mono ?_; rintro e w2 ⟨rfl, ha, hf⟩; have HA := Lib.hid ha; have HF2 := Lib.hid hf; clear ha hf)
   go_returns
   exact ⟨rfl, H2.out.withL HA.out HF2.out, (Fr.of_below HB.out).trans (HF2.out.mono (fun i e => e.elim (fun e => .inr (.inr (.inl e))) (fun e => .inr (.inr (.inr e)))))⟩
end Go.Proofs.YtlfikhblmbidmaaGreatDoor
namespace Go.Proofs.YtlfikhblmbidmaaGreatDoor
open Go.RowKit Go.Maps
def recR (s : NSt) : List (List UInt8) → Option NSt
 | [] => some s
 | b :: bs => match parseP b with
  | none => none
  | some x => if doE s x = 0 then recR (doS s x) bs else none
def newN (n : Int) : NSt := ⟨newS n, newLog⟩
def RcP (w : World) (o : Option NSt) (e : Ending) (w' : World) : Prop :=
 Below w.heap.size w w' ∧ match o with
 | none => e = .returned (.tuple #[.pointer none, .pointer none, .int .i64 10])
 | some t => ∃ p m q k, e = .returned (.tuple #[.pointer (some ⟨p, 0, none⟩), .pointer (some ⟨q, 0, none⟩), .int .i64 0]) ∧ NS w' p m q k t ∧ ∀ i, nF p m q k i → w.heap.size ≤ i
theorem row_at {W : World} {lo n : Nat} {e : TypeId} {v : Value} {xs : List Value} (h : W.ownsRow lo e 1 v n xs) {i : Nat} {x : Value} (hx : xs[i]? = some x) :
  ∃ g c, v = .slice (some ⟨g, 0, none⟩) n c ∧ W.cell? ⟨g, i, none⟩ = some x ∧ g < W.heap.size := by
 have hl := h.1
 have hil : i < xs.length := (List.getElem?_eq_some_iff.1 hx).1
 rcases h.2 with ⟨rfl, hn⟩ | ⟨g, cap, cur, rfl, hb, hg, hle, hcap, hsz, htake⟩
 ·omega
 ·refine ⟨g, cap, rfl, ?_, (Array.getElem?_eq_some_iff.1 hg).1⟩
  have hB : Blk W g e cur := hg
  refine hB.cell ?_
  rw [← htake, List.getElem?_take, if_pos (by omega)] at hx
  rw [← Array.getElem?_toList]
  exact hx
theorem NS.keepT {W W' : World} {p m q k : Nat} {s : NSt} (h : NS W p m q k s) (f : Fr (nF p m q k) W W') (T : TypeId) (h1 : 164 ≠ T) (h2 : 169 ≠ T) : KeepT T W W' := KeepT.of_fr f (fun i hi cs z hz => by
 rcases hi with rfl | rfl | rfl | rfl
 ·have := (show W.heap[i]? = _ from h.a.at_.blk).symm.trans hz
  simp only [Option.some.injEq, Obj.cells.injEq] at this
  exact h1 this.2.1
 ·obtain ⟨es, c, hm⟩ := h.a.at_.map.block
  have := hm.symm.trans hz
  simp at this
 ·have := (show W.heap[i]? = _ from h.l.at_.blk).symm.trans hz
  simp only [Option.some.injEq, Obj.cells.injEq] at this
  exact h2 this.2.1
 ·obtain ⟨es, c, hm⟩ := h.l.at_.map.block
  have := hm.symm.trans hz
  simp at this)
theorem RecRow.keep {lo : Nat} {A B : World} {v : Value} {xs : List RecX} (h : RecRow A lo v xs) (k1 : KeepT 5 A B) (k2 : KeepT 26 A B) : RecRow B lo v xs := ⟨KeepT.row k2 h.row, fun x hx => (h.rows x hx).keep k1⟩
theorem allF_sizes : ∀ (k : Nat) (r : List UInt8), r.length ≤ k → ∀ x ∈ (allF r).1, x.length ≤ 65536 := by
 intro k
 induction k with
 | zero => intro r hr x hx; rw [List.length_eq_zero_iff.1 (by omega : r.length = 0), allF_none nextF_nil] at hx; cases hx
 | succ k ih =>
  intro r hr x hx
  cases h : nextF r with
  | none => rw [allF_none h] at hx; cases hx
  | some q =>
   obtain ⟨c, r'⟩ := q
   rw [allF_some h] at hx
   have := nextF_lt h
   rcases List.mem_cons.1 hx with rfl | hx
   ·exact (nextF_some h).2.2.1
   ·exact ih r' (by omega) x hx
theorem RcP.none_ {w w' : World} (hb : Below w.heap.size w w') : RcP w none (.returned (.tuple #[.pointer none, .pointer none, .int .i64 10])) w' := ⟨hb, rfl⟩
theorem recR_step {s : NSt} {b : List UInt8} {bs : List (List UInt8)} {x : Rec} (h : parseP b = some x) (hd : doE s x = 0) : recR s (b :: bs) = recR (doS s x) bs := by simp only [recR, h, if_pos hd]
theorem recR_bad {s : NSt} {b : List UInt8} {bs : List (List UInt8)} {x : Rec} (h : parseP b = some x) (hd : ¬ doE s x = 0) : recR s (b :: bs) = none := by simp only [recR, h, if_neg hd]
theorem recR_none {s : NSt} {b : List UInt8} {bs : List (List UInt8)} (h : parseP b = none) : recR s (b :: bs) = none := by simp only [recR, h]
set_option maxRecDepth 100000 in
set_option maxHeartbeats 2000000 in
theorem recover_any {w : World} {dp dq : Nat} {v sv : Value} {ds : DSt} (n : Int) (hn : okN n) (h : DiskAt w dp dq v sv ds) (hg : DGood ds) (hF : FoursAt w) (hs : ds.has = false) :
  Calls Tryz.prog 15 #[.int .i64 n, .pointer (some ⟨dp, 0, none⟩)] w (RcP w (recR (newN n) (allF ds.b).1)) := by
 have hb1 : Below w.heap.size w (w.alloc (.cells #[.int .i64 n] 3)) := (Below.refl _ w).alloc (Nat.le_refl _) _
 have h1 := h.below hb1
 have q1 := (Blk.new w 3 #[.int .i64 n]).cell (i := 0) (v := .int .i64 n) rfl
 have HB1 := Lib.hid hb1
 have H1 := Lib.hid h1
 have HF1 := Lib.hid (hF.below hb1)
 clear h h1 hb1 hF
 go_enter Tryz.func15, Tryz.ntmps15
 go_wp2_with (first
  | (go_at_call 58; refine (dcopy_any H1.out hg).mono ?_; rintro e w2 ⟨cp, cq, cv, csv, rfl, _, _, hb2⟩; have q2 := bcell hb2 q1; have HB2 := Lib.hid hb2; have H2 := Lib.hid (H1.out.below hb2); have HF2 := Lib.hid (HF1.out.below hb2); clear hb2)
  | (go_at_call 69; refine (new_S _ n hn).mono ?_; rintro e w3 ⟨p, m, rfl, ha, hp, hm, hb3⟩; have HB3 := Lib.hid hb3; have HA3 := Lib.hid ha; have H3 := Lib.hid (H2.out.below hb3); have HF3 := Lib.hid (HF2.out.below hb3); clear hb3 ha)
  | (go_at_call 70; refine (lnew_any _).mono ?_; rintro e w4 ⟨q, k, rfl, hl, hq, hk, hb4⟩; have HB4 := Lib.hid hb4; have HA4 := Lib.hid (HA3.out.below hb4); have HL4 := Lib.hid hl; have H4 := Lib.hid (H3.out.below hb4); have HF4 := Lib.hid (HF3.out.below hb4); clear hb4 hl)
  | (go_at_call 54; refine (dsnap_no (H4.out.below ((Below.refl _ w4).alloc (Nat.le_refl _) (.cells #[.pointer (some ⟨p, 0, none⟩), .pointer (some ⟨q, 0, none⟩)] 113))) hs).mono ?_; rintro e w5 ⟨rfl, rfl⟩)
  | (go_at_call 55; refine (drecords_any (H4.out.below ((Below.refl _ w4).alloc (Nat.le_refl _) (.cells #[.pointer (some ⟨p, 0, none⟩), .pointer (some ⟨q, 0, none⟩)] 113))) hg (HF4.out.below ((Below.refl _ w4).alloc (Nat.le_refl _) (.cells #[.pointer (some ⟨p, 0, none⟩), .pointer (some ⟨q, 0, none⟩)] 113)))).mono ?_; rintro e w6 ⟨vo, xs, rfl, hxs, hr, hb6⟩; obtain ⟨A6, c6, rfl⟩ := row_len hr.row; have HB6 := Lib.hid hb6; have HR6 := Lib.hid hr; clear hb6 hr))
 have hne : m ≠ k := by have := HA3.out.lt; omega
 have hb6w : Below w.heap.size w w6 := (((HB1.out.trans (HB2.out.mono (by simp))).trans (HB3.out.mono (by have := HB2.out.size; simp at this; omega))).trans (HB4.out.mono (by have := HB2.out.size; have := HB3.out.size; simp at *; omega))).trans ((((Below.refl _ w4).alloc (Nat.le_refl _) (.cells #[.pointer (some ⟨p, 0, none⟩), .pointer (some ⟨q, 0, none⟩)] 113)).mono (by have := HB2.out.size; have := HB3.out.size; have := HB4.out.size; simp at *; omega)).trans (HB6.out.mono (by have := HB2.out.size; have := HB3.out.size; have := HB4.out.size; simp at *; omega)))
 have hns : NS w6 p m q k (newN n) := (NS.below (s := newN n) ⟨HA4.out, ⟨HL4.out, LGood.new⟩, hne⟩ ((Below.refl _ w4).alloc (Nat.le_refl _) (.cells #[.pointer (some ⟨p, 0, none⟩), .pointer (some ⟨q, 0, none⟩)] 113))).below HB6.out
 have hbox : Blk w6 w4.heap.size 113 #[.pointer (some ⟨p, 0, none⟩), .pointer (some ⟨q, 0, none⟩)] := (Blk.new w4 113 _).of_block (HB6.out.block _ (by simp))
 have hlo : ∀ i, nF p m q k i → w.heap.size ≤ i ∧ i < w4.heap.size := fun i hi => by
  have h2 := HB2.out.size
  have h3 := HB3.out.size
  simp at h2
  have h5 := NS.lt (s := newN n) ⟨HA4.out, ⟨HL4.out, LGood.new⟩, hne⟩ hi
  rcases hi with rfl | rfl | rfl | rfl <;> omega
 have h46 : w4.heap.size < w6.heap.size := by have := HB6.out.size; simp at this; omega
 have hsz : ∀ x ∈ xs, x.2.length ≤ 65536 := fun x hx => allF_sizes _ _ (Nat.le_refl _) x.2 (by rw [← hxs]; exact List.mem_map_of_mem hx)
 have hcnt : xs.length ≤ 16777216 := by
  have h1 := allF_count _ ds.b (Nat.le_refl _)
  have h2 := hg.most
  rw [← hxs, List.length_map] at h1
  omega
 rw [← hxs]
 have HSZ := Lib.hid hsz
 have HXS := Lib.hid hxs
 have HLO := Lib.hid hlo
 have HB := Lib.hid hb6w
 have HN := Lib.hid hns
 have HX := Lib.hid hbox
 clear hsz hlo hb6w hns hbox hxs q2 H1 H2 H3 H4 HF1 HF2 HF3 HF4 HB1 HB2 HB3 HB4 HB6 HA3 HA4 HL4 hp hm hq hk
 go_loopw [45] (fun c wr => ∃ (i : Nat) (s : NSt), i ≤ xs.length ∧ c = .int .i64 i ∧ NS wr p m q k s ∧ Fr (nF p m q k) w6 wr ∧ recR (newN n) (xs.map (·.2)) = recR s ((xs.drop i).map (·.2))) (fun c _ => xs.length - (intOf c).toNat)
 case atStart => exact ⟨0, newN n, Nat.zero_le _, rfl, HN.out, Fr.refl _ _, by simp⟩
 case round =>
  obtain ⟨i, s, hi, rfl, hS, hfr, hrec⟩ := hrel
  have hbel : Below w.heap.size w wr := HB.out.trans (hfr.below HB.out.size (fun j hj => (HLO.out j hj).1))
  by_cases hlt : i < xs.length
  ·obtain ⟨y, hy⟩ : ∃ y, xs[i]? = some y := ⟨_, List.getElem?_eq_getElem hlt⟩
   obtain ⟨yv, yb⟩ := y
   have hi1 := Lib.hid (show i + 1 ≤ xs.length by omega)
   have hms := Lib.hid (show xs.length - (intOf (Value.int .i64 ((i + 1 : Nat) : Int))).toNat < xs.length - (intOf (Value.int .i64 (i : Int))).toNat by simp [intOf]; omega)
   have hw := Lib.hid (show ((i : Int) + 1) = ((i + 1 : Nat) : Int) by push_cast; rfl)
   have hR := HR6.out.keep (HN.out.keepT hfr _ (by decide) (by decide)) (HN.out.keepT hfr _ (by decide) (by decide))
   obtain ⟨g, c, hA, hcell, hgl⟩ := row_at hR.row (show (xs.map (·.1))[i]? = some yv by rw [List.getElem?_map, hy]; rfl)
   obtain ⟨rfl, rfl⟩ : A6 = some ⟨g, 0, none⟩ ∧ c6 = c := by simpa using hA
   have hrow := hR.rows (yv, yb) (List.mem_of_getElem? hy)
   have hys : yb.length ≤ 65536 := HSZ.out (yv, yb) (List.mem_of_getElem? hy)
   have hdrop : (xs.drop i).map (·.2) = yb :: ((xs.drop (i + 1)).map (·.2)) := by
    rw [List.drop_eq_getElem_cons hlt, List.map_cons]
    rw [List.getElem?_eq_getElem hlt] at hy
    rw [Option.some.inj hy]
   rw [hdrop] at hrec
   have hbs : BsIn wr yv yb := LRow.bsIn (LRow.of_row hrow)
   obtain ⟨ya, yn, yc, rfl⟩ := row_shape hrow
   have hX := HX.out.fr hfr (fun e => by have := (HLO.out _ e).2; omega)
   have HS := Lib.hid hS
   have HFR := Lib.hid hfr
   have HBEL := Lib.hid hbel
   have HREC := Lib.hid hrec
   have hwr := hfr.size
   clear hS hfr hbel hrec hR hrow hA hdrop
   cases hp : parseP yb with
   | none =>
    have HP := Lib.hid (parse_none _ yb wr hbs (by omega) hp)
    have HPP := Lib.hid hp
    clear hp hbs
    go_wp2_with (go_at_call 74; refine HP.out.mono ?_; rintro e w7 ⟨rfl, hb7⟩; have HB7 := Lib.hid hb7; clear hb7)
    go_returns
    rw [HREC.out, recR_none HPP.out]
    exact RcP.none_ ((HBEL.out.trans (HB7.out.mono HBEL.out.size)).alloc (by have := HBEL.out.size; have := HB7.out.size; omega) _)
   | some x =>
    have HP := Lib.hid (parse_some _ yb x wr hbs (by omega) hp)
    have HPP := Lib.hid hp
    clear hp hbs
    by_cases hd : doE s x = 0
    ·have hd' : decide (doE s x = 0) = true := by simpa using hd
     go_wp2_with (first
      | (go_at_call 74; refine HP.out.mono ?_; rintro e w7 ⟨rfl, hb7⟩; have hx7 := (hX.of_block (hb7.block _ hX.lt)).alloc (.cells (recX x) 121); have e0 := hx7.cell (i := 0) (v := .pointer (some ⟨p, 0, none⟩)) rfl; have e1 := hx7.cell (i := 1) (v := .pointer (some ⟨q, 0, none⟩)) rfl; have hr7 := Blk.new w7 121 (recX x); have d0 := hr7.cell (i := 0) (v := .int .i64 (x.k : Int)) rfl; have d1 := hr7.cell (i := 1) (v := .int .i64 (x.ro : Int)) rfl; have d2 := hr7.cell (i := 2) (v := .int .i64 (x.no : Int)) rfl; have d3 := hr7.cell (i := 3) (v := .int .i64 (x.sl : Int)) rfl; have d4 := hr7.cell (i := 4) (v := .string (sB x.v)) rfl; have HB7 := Lib.hid hb7; have HD := Lib.hid (do_any x ((HS.out.below hb7).below ((Below.refl _ w7).alloc (Nat.le_refl _) (.cells (recX x) 121)))); clear hb7 hr7 hx7)
      | (go_at_call 75; refine HD.out.mono ?_; rintro e w8 ⟨rfl, hs8, hf8⟩; have HS8 := Lib.hid hs8; have HF8 := Lib.hid hf8; clear hs8 hf8))
     rw [hw.out]
     exact ⟨⟨i + 1, doS s x, hi1.out, rfl, HS8.out, (HFR.out.trans ((Fr.of_below HB7.out).alloc _)).trans HF8.out, by rw [HREC.out, recR_step HPP.out hd]⟩, hms.out⟩
    ·have hd' : decide (doE s x = 0) = false := by simpa using hd
     go_wp2_with (first
      | (go_at_call 74; refine HP.out.mono ?_; rintro e w7 ⟨rfl, hb7⟩; have hx7 := (hX.of_block (hb7.block _ hX.lt)).alloc (.cells (recX x) 121); have e0 := hx7.cell (i := 0) (v := .pointer (some ⟨p, 0, none⟩)) rfl; have e1 := hx7.cell (i := 1) (v := .pointer (some ⟨q, 0, none⟩)) rfl; have hr7 := Blk.new w7 121 (recX x); have d0 := hr7.cell (i := 0) (v := .int .i64 (x.k : Int)) rfl; have d1 := hr7.cell (i := 1) (v := .int .i64 (x.ro : Int)) rfl; have d2 := hr7.cell (i := 2) (v := .int .i64 (x.no : Int)) rfl; have d3 := hr7.cell (i := 3) (v := .int .i64 (x.sl : Int)) rfl; have d4 := hr7.cell (i := 4) (v := .string (sB x.v)) rfl; have HB7 := Lib.hid hb7; have HD := Lib.hid (do_any x ((HS.out.below hb7).below ((Below.refl _ w7).alloc (Nat.le_refl _) (.cells (recX x) 121)))); clear hb7 hr7 hx7)
      | (go_at_call 75; refine HD.out.mono ?_; rintro e w8 ⟨rfl, hs8, hf8⟩; have HS8 := Lib.hid hs8; have HF8 := Lib.hid hf8; clear hs8 hf8))
     go_returns
     rw [HREC.out, recR_bad HPP.out hd]
     exact RcP.none_ (HB.out.trans (((HFR.out.trans ((Fr.of_below HB7.out).alloc _)).trans HF8.out).below HB.out.size (fun j hj => (HLO.out j hj).1)))
  ·obtain rfl : i = xs.length := by omega
   rw [List.drop_length] at hrec
   have HREC := Lib.hid hrec
   have hX := HX.out.fr hfr (fun e => by have := (HLO.out _ e).2; omega)
   have e0 := hX.cell (i := 0) (v := .pointer (some ⟨p, 0, none⟩)) rfl
   have e1 := hX.cell (i := 1) (v := .pointer (some ⟨q, 0, none⟩)) rfl
   have HS := Lib.hid hS
   have HBEL := Lib.hid hbel
   clear hS hbel hX hfr hrec
   go_wp2_with fail
   go_region
   all_goals (try go_wp2_with fail)
   all_goals go_returns
   all_goals rw [← HXS.out, HREC.out]
   all_goals refine ⟨HBEL.out.drew, ?_⟩
   all_goals exact ⟨p, m, q, k, rfl, HS.out.below ((Below.refl _ _).drew), fun i hi => (HLO.out i hi).1⟩
end Go.Proofs.YtlfikhblmbidmaaGreatDoor
namespace Go.Proofs.YtlfikhblmbidmaaGreatDoor
def entB (p : Int × Ent) : List UInt8 := uintsB [p.1.toNat, p.2.1.toNat, p.2.2.1.toNat] ++ textB p.2.2.2.data.toList
def valuB (p : Int × ByteArray) : List UInt8 := uintsB [p.1.toNat] ++ textB p.2.data.toList
def headA (s : NSt) : List UInt8 := uintsB [s.a.r.toNat, s.a.d.toNat, s.a.base.toNat, s.a.L.length]
def headL (s : NSt) : List UInt8 := uintsB [s.l.base.toNat, s.l.L.length]
def snapB (s : NSt) : List UInt8 := ((headA s ++ s.a.L.flatMap entB) ++ headL s) ++ s.l.L.flatMap valuB
theorem good_range {n r d : Int} (h : goodB n r d = true) (hn : n ≤ 7) : 0 ≤ r ∧ r ≤ 1073741824 ∧ 0 ≤ d ∧ d ≤ 6 := by
 unfold goodB chkE at h
 simp only [Bool.and_eq_true, Bool.not_eq_true', beq_iff_eq] at h
 obtain ⟨h1, h2⟩ := h
 split at h2
 ·simp at h2
 ·split at h2
  ·rename_i h0
   simp [h0.1, h0.2] at h1
  ·split at h2
   ·simp at h2
   ·omega
theorem AGood.range {s : ASt} (h : AGood s) : 0 ≤ s.r ∧ s.r ≤ 1073741824 ∧ 0 ≤ s.d ∧ s.d ≤ 6 := by
 rcases h.pos with hp | ⟨h1, h2⟩
 ·exact good_range hp h.n.2
 ·omega
theorem AGood.ent {s : ASt} (h : AGood s) {p : Int × Ent} (hp : p ∈ s.L) : 0 ≤ p.1 ∧ p.1 < 4096 ∧ 0 ≤ p.2.1 ∧ p.2.1 ≤ 1073741824 ∧ 0 ≤ p.2.2.1 ∧ p.2.2.1 ≤ 6 := by
 have h1 := h.slots p hp
 have h2 := h.base
 have h3 := good_range (h.good p hp) h.n.2
 omega
theorem AGood.list0 {s : ASt} (h : AGood s) : listL 0 s.L = s.L := by
 unfold listL
 rw [List.filter_eq_self]
 intro p hp
 have := (h.ent hp).1
 simpa using this
theorem LGood.key {s : LogSt} (h : LGood s) {p : Int × ByteArray} (hp : p ∈ s.L) : 0 ≤ p.1 ∧ p.1 < 4096 := by
 have h1 := h.keys p hp
 have h2 := h.b0
 have h3 := h.t1
 omega
def hasL (L : VL) (x : Int) : List Int := (L.filter fun p => decide (p.1 < x)).map (·.1)
theorem hasL_start {L : VL} {x : Int} (h : ∀ p ∈ L, x ≤ p.1) : hasL L x = [] := by
 unfold hasL
 rw [List.filter_eq_nil_iff.2 (fun p hp => by have := h p hp; simp; omega)]
 rfl
theorem hasL_end {L : VL} {x : Int} (h : ∀ p ∈ L, p.1 < x) : hasL L x = L.map (·.1) := by
 unfold hasL
 rw [List.filter_eq_self.2 (fun p hp => by have := h p hp; simpa using this)]
theorem hasL_step : ∀ {L : VL}, Srt L → ∀ x : Int, hasL L (x + 1) = hasL L x ++ if (get x L).isSome then [x] else []
 | [], _, x => by simp [hasL, get]
 | p :: L, h, x => by
  have h1 := List.pairwise_cons.1 h
  have ih := hasL_step h1.2 x
  by_cases hp : p.1 < x
  ·have e1 : hasL (p :: L) (x + 1) = p.1 :: hasL L (x + 1) := by simp [hasL, List.filter_cons, show p.1 < x + 1 by omega]
   have e2 : hasL (p :: L) x = p.1 :: hasL L x := by simp [hasL, List.filter_cons, hp]
   have e3 : get x (p :: L) = get x L := by simp [get, List.find?_cons, show (p.1 == x) = false from by simp; omega]
   rw [e1, e2, e3, ih, List.cons_append]
  ·have hn : ∀ q ∈ L, ¬ q.1 < x + 1 := fun q hq => by have := h1.1 q hq; omega
   have e0 : ∀ y, y ≤ x + 1 → hasL L y = [] := fun y hy => hasL_start (fun q hq => by have := hn q hq; omega)
   by_cases he : p.1 = x
   ·have e1 : hasL (p :: L) (x + 1) = p.1 :: hasL L (x + 1) := by simp [hasL, List.filter_cons, show p.1 < x + 1 by omega]
    have e2 : hasL (p :: L) x = hasL L x := by simp [hasL, List.filter_cons, show ¬ p.1 < x from hp]
    have e3 : get x (p :: L) = some p.2 := by simp [get, List.find?_cons, he]
    rw [e1, e2, e3, e0 _ (Int.le_refl _), e0 _ (by omega), he]
    rfl
   ·have e1 : hasL (p :: L) (x + 1) = hasL L (x + 1) := by simp [hasL, List.filter_cons, show ¬ p.1 < x + 1 by omega]
    have e2 : hasL (p :: L) x = hasL L x := by simp [hasL, List.filter_cons, show ¬ p.1 < x from hp]
    have e3 : get x (p :: L) = none := get_none.2 (fun q hq => by
     rcases List.mem_cons.1 hq with rfl | hq
     ·exact he
     ·have := hn q hq; omega)
    rw [e1, e2, e3, e0 _ (Int.le_refl _), e0 _ (by omega)]
    rfl
theorem flat_len {α β : Type} (f : α → List β) : ∀ (l : List α) (i : Nat), ((l.take i).flatMap f).length ≤ (l.flatMap f).length
 | [], i => by simp
 | x :: l, 0 => by simp
 | x :: l, i + 1 => by
  have := flat_len f l i
  simp only [List.take_succ_cons, List.flatMap_cons, List.length_append]
  omega
theorem flat_step {α β : Type} (f : α → List β) (l : List α) (i : Nat) (x : α) (h : l[i]? = some x) : (l.take (i + 1)).flatMap f = (l.take i).flatMap f ++ f x := by
 rw [List.take_add_one, h, List.flatMap_append]
 simp
theorem textB_ge (l : List UInt8) : l.length ≤ (textB l).length := by unfold textB; simp
end Go.Proofs.YtlfikhblmbidmaaGreatDoor
namespace Go.Proofs.YtlfikhblmbidmaaGreatDoor
open Go.RowKit Go.Maps
theorem sB_inj {a b : List UInt8} (h : sB a = sB b) : a = b := by
 unfold sB at h
 have h := congrArg (fun x => x.data.toList) h
 simpa using h
theorem sB_eq (a b : List UInt8) : ((sB a).toList == (sB b).toList) = decide (a = b) := by
 rw [str_eq]
 by_cases h : a = b
 ·subst h; simp
 ·rw [decide_eq_false h, decide_eq_false (fun e => h (sB_inj e))]
theorem bequal_any (u v : Value) (a b : List UInt8) (w : World) (ha : BsIn w u a) (hb : BsIn w v b) :
  Calls Tryz.prog 22 #[u, v] w fun e w' => e = .returned (.bool (decide (a = b))) ∧ w = w' := by
 obtain ⟨A, c, rfl, _, _⟩ := ha.shape
 obtain ⟨A2, c2, rfl, _, _⟩ := hb.shape
 have h1 := conv_bs ha
 have h2 := conv_bs hb
 have HE := Lib.hid (sB_eq a b)
 clear ha hb
 go_enter Tryz.func22, Tryz.ntmps22
 go_wp2
 go_returns
 exact ⟨by rw [← HE.out]; rfl, rfl⟩
end Go.Proofs.YtlfikhblmbidmaaGreatDoor
namespace Go.Proofs.YtlfikhblmbidmaaGreatDoor
open Go.RowKit Go.Maps
def entEq (p q : Int × Ent) : Bool := p.1 == q.1 && (p.2.1 == q.2.1 && p.2.2.1 == q.2.2.1) && (p.2.2.2.toList == q.2.2.2.toList)
theorem entEq_iff (p q : Int × Ent) : entEq p q = true ↔ p = q := by
 obtain ⟨s, a, b, v⟩ := p
 obtain ⟨t, c, d, u⟩ := q
 simp only [entEq, Bool.and_eq_true, beq_iff_eq, Prod.mk.injEq]
 constructor
 ·rintro ⟨⟨h1, h2, h3⟩, h4⟩
  exact ⟨h1, h2, h3, toList_inj h4⟩
 ·rintro ⟨h1, h2, h3, h4⟩
  exact ⟨⟨h1, h2, h3⟩, by rw [h4]⟩
theorem eqEnt (s a b : Int) (v : ByteArray) (t c d : Int) (u : ByteArray) (w : World) :
  (Op.equalIn 10000 128 (.agg #[.int .i64 s, .int .i64 a, .int .i64 b, .string v]) (.agg #[.int .i64 t, .int .i64 c, .int .i64 d, .string u])).run Tryz.prog w = .ok (entEq (s, a, b, v) (t, c, d, u)) w := by
 have u3 := Tryz.underlying3
 have a3 := Tryz.isAgg3
 have z3 := Tryz.sizeOf3
 have u9 := Tryz.underlying9
 have a9 := Tryz.isAgg9
 have z9 := Tryz.sizeOf9
 have aB := Tryz.isAgg24
 have zB := Tryz.sizeOf24
 have hS : Tryz.prog.underlying 128 = some (.struct (Tryz.prog.fieldsOf 128)) := by kernel_rfl
 have hp : Tryz.prog.stoodInHeld 128 = false := by kernel_rfl
 have hSB : Tryz.prog.underlying 24 = some (.struct (Tryz.prog.fieldsOf 24)) := by kernel_rfl
 have hpB : Tryz.prog.stoodInHeld 24 = false := by kernel_rfl
 have hBal : ∀ (a b c d : Int) (w : World), (Op.equalIn 9999 24 (.agg #[.int .i64 a, .int .i64 b]) (.agg #[.int .i64 c, .int .i64 d])).run Tryz.prog w = .ok (a == c && b == d) w := by
  intro a b c d w
  rw [show (9999 : Nat) = 9998 + 1 from rfl, run_equalIn_agg w 9998 24 _ _ hSB hpB]
  simp only [Program.fieldsOf, Tryz.underlying24]
  go_simp
  by_cases h1 : a = c <;> by_cases h2 : b = d <;> simp [h1, h2]
 rw [show (10000 : Nat) = 9999 + 1 from rfl, run_equalIn_agg w 9999 128 _ _ hS hp]
 simp only [Program.fieldsOf, Tryz.underlying128]
 unfold entEq
 go_simp
 by_cases h1 : s = t <;> by_cases h2 : a = c <;> by_cases h3 : b = d <;> by_cases h4 : v.toList = u.toList <;> simp [h1, h2, h3, h4]
theorem eqGEnt : Tryz.prog.eqGuardType Tryz.prog.depth 128 = false := by kernel_rfl
theorem bldEnt (k r d : Int) (v : ByteArray) (w : World) : (Instr.build 128 #[(0, .int .i64 k), (1, .agg #[.int .i64 r, .int .i64 d]), (2, .string v)]).run Tryz.prog w = .ok (.agg #[.int .i64 k, .int .i64 r, .int .i64 d, .string v]) w := run_build w 128 _ _ (by kernel_rfl)
end Go.Proofs.YtlfikhblmbidmaaGreatDoor
namespace Go.Proofs.YtlfikhblmbidmaaGreatDoor
theorem uint300 : uintB 300 = [172, 2] := by rw [uintB_ge (by decide), uintB_lt (by decide)]; rfl
abbrev recP5 : Rec := ⟨1, 5, 2, 0, []⟩
abbrev recQ5 : Rec := ⟨2, 5, 2, 300, [97, 98]⟩
abbrev recS5 : Rec := ⟨3, 0, 0, 0, []⟩
abbrev bP5 : List UInt8 := [1, 5, 2]
abbrev bQ5 : List UInt8 := [2, 5, 2, 172, 2, 2, 97, 98]
abbrev bS5 : List UInt8 := [3, 0, 0]
theorem bytesP5 : recP5.bytes = bP5 := by simp [Rec.bytes, uintB_lt]
theorem bytesQ5 : recQ5.bytes = bQ5 := by simp [Rec.bytes, uintB_lt, uint300, textB]
theorem bytesS5 : recS5.bytes = bS5 := by simp [Rec.bytes, uintB_lt, textB]
theorem valQ5 : valB [2, 5, 2, 300] ⟨#[97, 98]⟩ = bQ5 := by simp [valB, uintsB, uintB_lt, uint300, textB]
theorem valS5 : valB [3, 0] ⟨#[]⟩ = bS5 := by simp [valB, uintsB, uintB_lt, textB]
theorem parP5 : parseP bP5 = some recP5 := by
 rw [← bytesP5]
 exact parseP_enc ⟨by decide, by decide, by decide, by decide, by decide, by decide⟩ (by rw [bytesP5]; decide)
theorem parQ5 : parseP bQ5 = some recQ5 := by
 rw [← bytesQ5]
 exact parseP_enc ⟨by decide, by decide, by decide, by decide, by decide, by decide⟩ (by rw [bytesQ5]; decide)
theorem parS5 : parseP bS5 = some recS5 := by
 rw [← bytesS5]
 exact parseP_enc ⟨by decide, by decide, by decide, by decide, by decide, by decide⟩ (by rw [bytesS5]; decide)
def n1W : NSt := ⟨⟨3, 5, 2, 0, []⟩, newLog⟩
def n2W : NSt := ⟨⟨3, 5, 2, 0, [(300, (5, 2, ⟨#[97, 98]⟩))]⟩, newLog⟩
def nW : NSt := ⟨⟨3, 5, 2, 0, [(300, (5, 2, ⟨#[97, 98]⟩))]⟩, ⟨0, 1, 1, [(0, ⟨#[]⟩)]⟩⟩
theorem doP5 : doE (newN 3) recP5 = 0 ∧ doS (newN 3) recP5 = n1W := by constructor <;> rfl
theorem doQ5 : doE n1W recQ5 = 0 ∧ doS n1W recQ5 = n2W := by constructor <;> rfl
theorem doS5 : doE n2W recS5 = 0 ∧ doS n2W recS5 = nW := by constructor <;> rfl
theorem recW : recR (newN 3) [bP5, bQ5, bS5] = some nW := by
 rw [recR_step parP5 doP5.1, doP5.2, recR_step parQ5 doQ5.1, doQ5.2, recR_step parS5 doS5.1, doS5.2]
 rfl
abbrev bW : List UInt8 := [5, 2, 0, 1, 172, 2, 5, 2, 2, 97, 98, 0, 1, 0, 0]
theorem snapW : snapB nW = bW := by
 simp [snapB, nW, headA, headL, entB, valuB, uintsB, uintB_lt, uint300, textB]
theorem frW : allF ((([] ++ frameB bP5) ++ frameB bQ5) ++ frameB bS5) = ([bP5, bQ5, bS5], ((([] ++ frameB bP5) ++ frameB bQ5) ++ frameB bS5).length) := by
 have := allF_only (l := [bP5, bQ5, bS5]) (by simp)
 simpa [framesB] using this
end Go.Proofs.YtlfikhblmbidmaaGreatDoor