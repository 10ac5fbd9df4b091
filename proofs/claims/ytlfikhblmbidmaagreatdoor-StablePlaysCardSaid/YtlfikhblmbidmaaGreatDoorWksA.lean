import Derived.Test.YtlfikhblmbidmaaGreatDoorStaC
import Derived.Test.YtlfikhblmbidmaaGreatDoorMrgH
set_option linter.all false
namespace Go.Proofs.YtlfikhblmbidmaaGreatDoor
open Go.RowKit Go.Maps
def DLo (B p q : Nat) (v sv : Value) : Prop := ∀ i, dF p q v sv i → B ≤ i
theorem DStep.lo {B : Nat} {w w' : World} {p q : Nat} {v sv v' sv' : Value} {s' : DSt} (h : DStep w p q v sv w' v' sv' s') (hB : B ≤ w.heap.size) (hl : DLo B p q v sv) : Below B w w' ∧ DLo B p q v' sv' :=
 ⟨h.fr.below hB hl, fun i hi => (h.own i hi).elim (hl i) (fun e => Nat.le_trans hB e)⟩
structure DkB (w0 : World) (p q : Nat) (v sv : Value) (s : DSt) (X : World) : Prop where
 at_ : DiskAt X p q v sv s
 lo : DLo w0.heap.size p q v sv
 bel : Below w0.heap.size w0 X
theorem DkB.below {w0 X Y : World} {p q : Nat} {v sv : Value} {s : DSt} (h : DkB w0 p q v sv s X) (b : Below X.heap.size X Y) : DkB w0 p q v sv s Y := ⟨h.at_.below b, h.lo, h.bel.trans (b.mono h.bel.size)⟩
theorem DkB.step {w0 X Y : World} {p q : Nat} {v sv v' sv' : Value} {s s' : DSt} (h : DkB w0 p q v sv s X) (k : DStep X p q v sv Y v' sv' s') : DkB w0 p q v' sv' s' Y :=
 ⟨k.at_, (k.lo h.bel.size h.lo).2, h.bel.trans (k.lo h.bel.size h.lo).1⟩
theorem BsIn.step {X Y : World} {p q lo : Nat} {v sv v' sv' u : Value} {s s' : DSt} {n : Nat} {bs : List UInt8} (k : DStep X p q v sv Y v' sv' s') (h : X.ownsRow lo 5 1 u n (bs.map u8V)) (hd : ∀ i, u.ownBlock = some i → ¬ dF p q v sv i) : Y.ownsRow lo 5 1 u n (bs.map u8V) :=
 row_fr h k.fr hd
theorem dF_kind {X : World} {p q : Nat} {v sv : Value} {s : DSt} (h : DiskAt X p q v sv s) {i : Nat} (hi : dF p q v sv i) : ∃ cs z T, X.heap[i]? = some (.cells cs T z) ∧ (T = 109 ∨ T = 107 ∨ T = 5) := by
 rcases hi with rfl | rfl | e | e
 ·exact ⟨_, _, _, h.d, .inl rfl⟩
 ·exact ⟨_, _, _, h.l, .inr (.inl rfl)⟩
 ·obtain ⟨c, hc⟩ := h.row.type e
  exact ⟨_, _, _, hc, .inr (.inr rfl)⟩
 ·obtain ⟨c, hc⟩ := h.srow.type e
  exact ⟨_, _, _, hc, .inr (.inr rfl)⟩
theorem DStep.blk {X Y : World} {p q : Nat} {v sv v' sv' : Value} {s s' : DSt} (h : DiskAt X p q v sv s) (k : DStep X p q v sv Y v' sv' s') {b : Nat} {T : TypeId} {cs : Array Value} (hb : Blk X b T cs) (h1 : T ≠ 109) (h2 : T ≠ 107) (h3 : T ≠ 5) : Blk Y b T cs :=
 hb.fr k.fr (fun e => by
  obtain ⟨cs', z, T', hc, ht⟩ := dF_kind h e
  have := (show X.heap[b]? = _ from hb).symm.trans hc
  simp only [Option.some.injEq, Obj.cells.injEq] at this
  obtain ⟨_, rfl, _⟩ := this
  rcases ht with rfl | rfl | rfl
  ·exact h1 rfl
  ·exact h2 rfl
  ·exact h3 rfl)
theorem DStep.map {X Y : World} {p q : Nat} {v sv v' sv' : Value} {s s' : DSt} (h : DiskAt X p q v sv s) (k : DStep X p q v sv Y v' sv' s') {m : Nat} {es : Array MapEntry} {c : Nat} (hm : X.heap[m]? = some (.map es c)) : ¬ dF p q v sv m := fun e => by
 obtain ⟨cs', z, T', hc, _⟩ := dF_kind h e
 have := hm.symm.trans hc
 simp at this
theorem DStep.as_ {X Y : World} {p q : Nat} {v sv v' sv' : Value} {s s' : DSt} (h : DiskAt X p q v sv s) (k : DStep X p q v sv Y v' sv' s') {a m : Nat} {t : ASt} (ha : AS X a m t) : AS Y a m t :=
 ⟨⟨k.blk h ha.at_.blk (by decide) (by decide) (by decide), by
  obtain ⟨es, c, hm⟩ := ha.at_.map.block
  exact ha.at_.map.of_block (k.fr.block m ha.at_.map.lt (k.map h hm))⟩, ha.good⟩
theorem DStep.ls_ {X Y : World} {p q : Nat} {v sv v' sv' : Value} {s s' : DSt} (h : DiskAt X p q v sv s) (k : DStep X p q v sv Y v' sv' s') {a m : Nat} {t : LogSt} (ha : LS X a m t) : LS Y a m t :=
 ⟨⟨k.blk h ha.at_.blk (by decide) (by decide) (by decide), by
  obtain ⟨es, c, hm⟩ := ha.at_.map.block
  exact ha.at_.map.of_block (k.fr.block m ha.at_.map.lt (k.map h hm))⟩, ha.good⟩
theorem DStep.ns_ {X Y : World} {p q : Nat} {v sv v' sv' : Value} {s s' : DSt} (h : DiskAt X p q v sv s) (k : DStep X p q v sv Y v' sv' s') {a m b n : Nat} {t : NSt} (ha : NS X a m b n t) : NS Y a m b n t := ⟨k.as_ h ha.a, k.ls_ h ha.l, ha.ne⟩
theorem bs_on {X Y : World} {lo : Nat} {u : Value} {bs : List UInt8} (h : X.ownsRow lo 5 1 u bs.length (bs.map u8V)) (b : Below X.heap.size X Y) : BsIn Y u bs :=
 LRow.bsIn (LRow.of_row (row_fr h (Fr.of_below b : Fr S0 X Y) (fun _ _ e => e)))
theorem DGood.wrote {s : DSt} {bs : List UInt8} (h : DGood s) (hf : s.b.length + 8 + bs.length ≤ 16777216) : DGood { s with b := s.b ++ frameB bs, safe := (s.b ++ frameB bs).length } :=
 ⟨Nat.le_refl _, by show (s.b ++ frameB bs).length ≤ 16777216; rw [List.length_append, frameB_length]; omega, h.st⟩
abbrev sD (b : List UInt8) : DSt := ⟨b, b.length, [], false⟩
theorem sD_good {b : List UInt8} (h : b.length ≤ 16777216) : DGood (sD b) := ⟨Nat.le_refl _, h, by simp⟩
def KpBlk (X Y : World) : Prop := ∀ (c : Nat) (T : TypeId) (cs : Array Value), Blk X c T cs → T ≠ 109 → T ≠ 107 → T ≠ 5 → Blk Y c T cs
theorem write_sD {w0 X : World} {p q : Nat} {v sv : Value} {b : List UInt8} (u : Value) (bs : List UInt8) (h : DkB w0 p q v sv (sD b) X) (hF : FoursAt X) (hu : BsIn X u bs) (hl : bs.length ≤ 65536) (hf : b.length + 8 + bs.length ≤ 16777216) :
  Calls Tryz.prog 16 #[.pointer (some ⟨p, 0, none⟩), u] X fun e Y => e = .returned (.int .i64 0) ∧ ∃ v', DkB w0 p q v' sv (sD (b ++ frameB bs)) Y ∧ KpBlk X Y := by
 refine (write_yes u bs h.at_ (sD_good (by omega)) hF hu hl hf).mono ?_
 rintro e Y ⟨rfl, v', hs⟩
 exact ⟨rfl, v', h.step hs, fun c T cs hb h1 h2 h3 => hs.blk h.at_ hb h1 h2 h3⟩
theorem recoverW {w0 X : World} {p q : Nat} {v sv : Value} (h : DkB w0 p q v sv (sD ((([] ++ frameB bP5) ++ frameB bQ5) ++ frameB bS5)) X) (hF : FoursAt X) :
  Calls Tryz.prog 15 #[.int .i64 3, .pointer (some ⟨p, 0, none⟩)] X fun e Y => ∃ a m l k, e = .returned (.tuple #[.pointer (some ⟨a, 0, none⟩), .pointer (some ⟨l, 0, none⟩), .int .i64 0]) ∧ NS Y a m l k nW ∧ Below X.heap.size X Y := by
 have hr := recover_any 3 ⟨by decide, by decide⟩ h.at_ (sD_good (by simp [frameB_length])) hF rfl
 rw [show (allF (sD ((([] ++ frameB bP5) ++ frameB bQ5) ++ frameB bS5)).b).1 = [bP5, bQ5, bS5] from congrArg Prod.fst frW, recW] at hr
 refine hr.mono ?_
 rintro e Y ⟨hb, a, m, l, k, he, hn, _⟩
 exact ⟨a, m, l, k, he, hn, hb⟩
theorem compactW {w0 X : World} {p q a m l k : Nat} {v sv : Value} {b : List UInt8} (h : DkB w0 p q v sv (sD b) X) (hb : b.length ≤ 16777216) (hn : NS X a m l k nW) :
  Calls Tryz.prog 17 #[.pointer (some ⟨p, 0, none⟩), .pointer (some ⟨a, 0, none⟩), .pointer (some ⟨l, 0, none⟩)] X fun e Y => e = .returned (.int .i64 0) ∧ ∃ sv', DkB w0 p q (.slice none 0 0) sv' ⟨[], 0, bW, true⟩ Y ∧ KpBlk X Y ∧ NS Y a m l k nW := by
 have hc := compact_any h.at_ (sD_good hb) hn (by rw [snapW]; decide) (by simp [nW]; decide)
 rw [snapW] at hc
 refine hc.mono ?_
 rintro e Y ⟨_, h2⟩
 obtain ⟨rfl, sv', hs⟩ := h2 (by decide)
 exact ⟨rfl, sv', h.step hs, fun c T cs hb h1 h2 h3 => hs.blk h.at_ hb h1 h2 h3, hs.ns_ h.at_ hn⟩
theorem bequal_same (u v : Value) (a : List UInt8) (w : World) (ha : BsIn w u a) (hb : BsIn w v a) :
  Calls Tryz.prog 22 #[u, v] w fun e w' => e = .returned (.bool true) ∧ w = w' := by
 have := bequal_any u v a a w ha hb
 rwa [decide_eq_true rfl] at this
theorem lit_bs (X : World) (b n : Nat) (bs : List UInt8) (hb : X.heap.size = b) (hn : bs.length = n) (hl : bs.length ≤ 1000) (arr : Array Value) (ha : arr = (bs.map u8V).toArray) :
  BsIn (X.alloc (.cells arr 5)).drew (.slice (some ⟨b, 0, none⟩) n n) bs := by
 subst hb hn ha
 refine ⟨_, bs.length, rfl, Nat.le_refl _, by unfold maxLen; omega, fun _ => ⟨X.heap.size, 0, rfl, by simp, fun i z hz => ?_⟩⟩
 rw [Nat.zero_add]
 refine Blk.cell (cs := (bs.map u8V).toArray) (t := 5) (Blk.new X _ _) ?_
 simp [hz]
abbrev SW (b1 b2 : Nat) (W X : World) : Prop :=
 X.cell? ⟨b1, 0, none⟩ = some (.int .i64 5) ∧ X.cell? ⟨b1, 1, none⟩ = some (.int .i64 2) ∧ X.cell? ⟨b2, 0, none⟩ = some (.int .i64 300) ∧ X.cell? ⟨b2, 1, none⟩ = some (.int .i64 5) ∧ X.cell? ⟨b2, 2, none⟩ = some (.int .i64 2) ∧ X.cell? ⟨b2, 3, none⟩ = some (.string ⟨#[97, 98]⟩) ∧ Below W.heap.size W X
theorem SW.below {b1 b2 : Nat} {W X Y : World} (h : SW b1 b2 W X) (b : Below X.heap.size X Y) : SW b1 b2 W Y :=
 ⟨bcell b h.1, bcell b h.2.1, bcell b h.2.2.1, bcell b h.2.2.2.1, bcell b h.2.2.2.2.1, bcell b h.2.2.2.2.2.1, h.2.2.2.2.2.2.trans (b.mono h.2.2.2.2.2.2.size)⟩
theorem SW.alloc {b1 b2 : Nat} {W X : World} (h : SW b1 b2 W X) (o : Obj) : SW b1 b2 W (X.alloc o).drew := SW.below h ((Below.refl _ X).alloc (Nat.le_refl _) o).drew
theorem SW.alloc' {b1 b2 : Nat} {W X : World} (h : SW b1 b2 W X.drew) (o : Obj) : SW b1 b2 W (X.alloc o).drew :=
 SW.alloc (X := X) ⟨h.1, h.2.1, h.2.2.1, h.2.2.2.1, h.2.2.2.2.1, h.2.2.2.2.2.1, ⟨h.2.2.2.2.2.2.os, h.2.2.2.2.2.2.tape, h.2.2.2.2.2.2.output, h.2.2.2.2.2.2.size, h.2.2.2.2.2.2.block⟩⟩ o
theorem promW {X : World} {a m : Nat} (h : AS X a m nW.a) : Calls Tryz.prog 77 #[.pointer (some ⟨a, 0, none⟩)] X fun e Y => e = .returned (.agg #[.int .i64 5, .int .i64 2]) ∧ Below X.heap.size X Y := promised_S a m nW.a X h
set_option maxRecDepth 100000 in
set_option maxHeartbeats 4000000 in
theorem works_any (w : World) (hF : FoursAt w) : Calls Tryz.prog 18 #[] w fun e w' => e = .returned (.bool true) ∧ Below w.heap.size w w' := by
 have hb1 : Below w.heap.size w (w.alloc (.cells #[.int .i64 5, .int .i64 2] 24)) := (Below.refl _ w).alloc (Nat.le_refl _) _
 have KB := Lib.hid (Blk.new w 24 #[.int .i64 5, .int .i64 2])
 have e0 := KB.out.cell (i := 0) (v := .int .i64 5) rfl
 have e1 := KB.out.cell (i := 1) (v := .int .i64 2) rfl
 have HB1 := Lib.hid hb1
 have HF := Lib.hid hF
 clear hb1 hF
 go_enter Tryz.func18, Tryz.ntmps18
 go_upto_region 6 with (first
  | (go_at_call 11; refine (sprom_yes 5 2 _ (by rfl)).mono ?_; rintro e w2 ⟨vp, rfl, hp, hb2⟩; rw [bytesP5] at hp; obtain ⟨a1, n1, c1, rfl⟩ := row_shape hp; have HP2 := Lib.hid hp; have HB2 := Lib.hid (bchain HB1.out hb2); have KB2 := Lib.hid (KB.out.of_block (hb2.block _ (by simp))); have x0 := bcell hb2 e0; have x1 := bcell hb2 e1; clear hp hb2)
  | (go_at_call 12; refine (sacc_yes 5 2 300 ⟨#[97, 98]⟩ _ (by rfl) (by decide) (by decide) (by rw [valQ5]; decide)).mono ?_; rintro e w3 ⟨vq, rfl, hq, hb3⟩; rw [valQ5] at hq; obtain ⟨a2, n2, c2, rfl⟩ := row_shape hq; have HQ3 := Lib.hid hq; have HP3 := Lib.hid (row_fr HP2.out (Fr.of_below hb3 : Fr S0 _ _) (fun _ _ e => e)); have HB3 := Lib.hid (bchain HB2.out hb3); have KB3 := Lib.hid (KB2.out.of_block (hb3.block _ KB2.out.lt)); clear hq hb3)
  | (go_at_call 13; refine (choose_yes 0 ⟨#[]⟩ _ (by decide) (by decide) (by rw [valS5]; decide)).mono ?_; rintro e w4 ⟨vs, rfl, hs, hb4⟩; rw [valS5] at hs; obtain ⟨a3, n3, c3, rfl⟩ := row_shape hs; have HS4 := Lib.hid hs; have HQ4 := Lib.hid (row_fr HQ3.out (Fr.of_below hb4 : Fr S0 _ _) (fun _ _ e => e)); have HP4 := Lib.hid (row_fr HP3.out (Fr.of_below hb4 : Fr S0 _ _) (fun _ _ e => e)); have HB4 := Lib.hid (bchain HB3.out hb4); have KB4 := Lib.hid (KB3.out.of_block (hb4.block _ KB3.out.lt)); clear hs hb4)
  | (go_at_call 14; refine (dnew_any _).mono ?_; rintro e w5 ⟨dp, dq, rfl, hd, hdp, hdq, hb5⟩; have HD5 := Lib.hid hd; have HS5 := Lib.hid (row_fr HS4.out (Fr.of_below hb5 : Fr S0 _ _) (fun _ _ e => e)); have HQ5 := Lib.hid (row_fr HQ4.out (Fr.of_below hb5 : Fr S0 _ _) (fun _ _ e => e)); have HP5 := Lib.hid (row_fr HP4.out (Fr.of_below hb5 : Fr S0 _ _) (fun _ _ e => e)); have HB5 := Lib.hid (bchain HB4.out hb5); have KB5 := Lib.hid (KB4.out.of_block (hb5.block _ KB4.out.lt)); have hlo5 : DLo w4.heap.size dp dq (.slice none 0 0) (.slice none 0 0) := (fun i hi => by rcases hi with rfl | rfl | e | e; exact hdp; exact hdq; cases e; cases e); have hb45 := hb5; clear hd hb5))
 have D5 := Lib.hid (show DkB w4 dp dq _ _ _ w5 from ⟨HD5.out, hlo5, hb45⟩)
 have hz5 := hb45.size
 have hz4 := HB4.out.size
 have D6 : Hid (DkB w4 dp dq _ _ (sD []) (w5.alloc (.cells #[.slice a1 n1 c1, .slice a2 n2 c2, .slice a3 n3 c3] 26))) := D5.out.below ((Below.refl _ w5).alloc (Nat.le_refl _) _)
 have KA := Blk.new w5 26 #[.slice a1 n1 c1, .slice a2 n2 c2, .slice a3 n3 c3]
 have t0 := KA.cell (i := 0) (v := .slice a1 n1 c1) rfl
 have KA6 := Lib.hid KA
 have KB6 := Lib.hid (KB5.out.alloc (.cells #[.slice a1 n1 c1, .slice a2 n2 c2, .slice a3 n3 c3] 26))
 clear HD5 HS5 HQ5 HP5 HB2 HB3 KB2 KB3 HP2 HP3 HQ3 x0 x1 e0 e1 KB HB1 KA D5 hlo5 hb45 KB4 KB5 HB5
 go_wp2_with fail
 refine wp_loop_rounds 4 ?_
 rw [rounds_succ]
 go_wp2_with (go_at_call 16; refine (write_sD (.slice a1 n1 c1) bP5 D6.out (HF.out.below (HB4.out.trans (D6.out.bel.mono hz4))) (bs_on HP4.out D6.out.bel) (by decide) (by decide)).mono ?_; rintro e w7 ⟨rfl, v7, hd7, hk7⟩; have D7 := Lib.hid hd7; have KA7 := Lib.hid (hk7 _ _ _ KA6.out (by decide) (by decide) (by decide)); have KB7 := Lib.hid (hk7 _ _ _ KB6.out (by decide) (by decide) (by decide)); have t1 := KA7.out.cell (i := 1) (v := .slice a2 n2 c2) rfl; clear hd7 hk7)
 rw [rounds_succ]
 go_wp2_with (go_at_call 16; refine (write_sD (.slice a2 n2 c2) bQ5 D7.out (HF.out.below (HB4.out.trans (D7.out.bel.mono hz4))) (bs_on HQ4.out D7.out.bel) (by decide) (by simp [frameB_length])).mono ?_; rintro e w8 ⟨rfl, v8, hd8, hk8⟩; have D8 := Lib.hid hd8; have KA8 := Lib.hid (hk8 _ _ _ KA7.out (by decide) (by decide) (by decide)); have KB8 := Lib.hid (hk8 _ _ _ KB7.out (by decide) (by decide) (by decide)); have t2 := KA8.out.cell (i := 2) (v := .slice a3 n3 c3) rfl; clear hd8 hk8)
 rw [rounds_succ]
 go_wp2_with (go_at_call 16; refine (write_sD (.slice a3 n3 c3) bS5 D8.out (HF.out.below (HB4.out.trans (D8.out.bel.mono hz4))) (bs_on HS4.out D8.out.bel) (by decide) (by simp [frameB_length])).mono ?_; rintro e w9 ⟨rfl, v9, hd9, hk9⟩; have D9 := Lib.hid hd9; have KB9 := Lib.hid (hk9 _ _ _ KB8.out (by decide) (by decide) (by decide)); clear hd9 hk9)
 rw [rounds_succ]
 clear D6 D7 D8 KA6 KA7 KA8 KB6 KB7 KB8
 have hacc : accdV 300 nW.a.L = .tuple #[.agg #[.int .i64 300, .int .i64 5, .int .i64 2, .string ⟨#[97, 98]⟩], .bool true] := rfl
 have hgv : getV 0 nW.l.L = .tuple #[.string ⟨#[]⟩, .bool true] := rfl
 go_upto_region 19 with (first
  | (go_at_call 15; refine (recoverW D9.out (HF.out.below (HB4.out.trans (D9.out.bel.mono hz4)))).mono ?_; rintro e w10 ⟨a, m, l, k, rfl, hn10, hb10⟩; have N10 := Lib.hid hn10; have D10 := Lib.hid (D9.out.below hb10); have KB10 := Lib.hid (KB9.out.of_block (hb10.block _ KB9.out.lt)); clear hn10 hb10)
  | (go_at_call 83; refine (accepted_S a m nW.a w10 300 N10.out.a ⟨by decide, by decide⟩).mono ?_; rw [hacc]; rintro e w11 ⟨rfl, hb11⟩; have hbx := (hb11.alloc hb11.size (.cells #[.int .i64 300, .int .i64 5, .int .i64 2, .string ⟨#[97, 98]⟩] 128)); have N11 := Lib.hid (N10.out.below hbx); have D11 := Lib.hid (D10.out.below hbx); have KB11 := Lib.hid (KB10.out.of_block (hbx.block _ KB10.out.lt)); have KE11 := Lib.hid (Blk.new w11 128 #[.int .i64 300, .int .i64 5, .int .i64 2, .string ⟨#[97, 98]⟩]); clear hb11 hbx)
  | (go_at_call 82; refine (lget_any 0 N11.out.l.at_ ⟨by decide, by decide⟩).mono ?_; rw [hgv]; rintro e w12 ⟨rfl, rfl⟩)
  | (go_at_call 17; refine (compactW D11.out (by simp [frameB_length]) N11.out).mono ?_; rintro e w13 ⟨rfl, sv', hd13, hk13, hn13⟩; have D13 := Lib.hid hd13; have N13 := Lib.hid hn13; have KB13 := Lib.hid (hk13 _ _ _ KB11.out (by decide) (by decide) (by decide)); have KE13 := Lib.hid (hk13 _ _ _ KE11.out (by decide) (by decide) (by decide)); clear hd13 hk13 hn13)
  | (go_at_call 54; refine (dsnap_yes D13.out.at_ rfl (by decide)).mono ?_; rintro e w14 ⟨vo, rfl, ho, hb14⟩; obtain ⟨a4, n4, c4, rfl⟩ := row_shape ho; have HO := Lib.hid ho; have D14 := Lib.hid (D13.out.below hb14); have N14 := Lib.hid (N13.out.below hb14); have KB14 := Lib.hid (KB13.out.of_block (hb14.block _ KB13.out.lt)); have KE14 := Lib.hid (KE13.out.of_block (hb14.block _ KE13.out.lt)); clear ho hb14))
 have BP := Lib.hid (bs_on HP4.out D14.out.bel)
 have BQ := Lib.hid (bs_on HQ4.out D14.out.bel)
 have BS := Lib.hid (bs_on HS4.out D14.out.bel)
 have BW : Hid (BsIn w14 (.slice a4 n4 c4) bW) := LRow.bsIn (LRow.of_row HO.out)
 have HBB := Lib.hid (HB4.out.trans (D14.out.bel.mono hz4))
 have y0 := KB14.out.cell (i := 0) (v := .int .i64 5) rfl
 have y1 := KB14.out.cell (i := 1) (v := .int .i64 2) rfl
 have y2 := KE14.out.cell (i := 0) (v := .int .i64 300) rfl
 have y3 := KE14.out.cell (i := 1) (v := .int .i64 5) rfl
 have y4 := KE14.out.cell (i := 2) (v := .int .i64 2) rfl
 have y5 := KE14.out.cell (i := 3) (v := .string ⟨#[97, 98]⟩) rfl
 have hE24 := fun (a b c d : Int) (w : World) => eqBal a b c d w
 have hG24 := eqGBal
 have hE128 := eqEnt 300 5 2 ⟨#[97, 98]⟩ 300 5 2 ⟨#[97, 98]⟩
 rw [(entEq_iff (300, 5, 2, ⟨#[97, 98]⟩) (300, 5, 2, ⟨#[97, 98]⟩)).2 rfl] at hE128
 have hG128 := eqGEnt
 have hbld := fun w => bldEnt 300 5 2 ⟨#[97, 98]⟩ w
 obtain ⟨bb, hbb⟩ : ∃ bb, bb = w.heap.size := ⟨_, rfl⟩
 obtain ⟨be, hbe⟩ : ∃ be, be = w11.heap.size := ⟨_, rfl⟩
 rw [← hbb] at y0 y1
 rw [← hbe] at y2 y3 y4 y5
 rw [← hbb, ← hbe]
 clear hbb hbe
 clear HP4 HQ4 HS4 HB4 D9 D10 D11 D13 D14 N10 N11 N13 KB9 KB10 KB11 KB13 KB14 KE11 KE13 KE14 HO HF hacc hgv t0 t1 t2
 refine wp_region_held_drew (S := (fun X => X.cell? ⟨bb, 0, none⟩ = some (.int .i64 5) ∧ X.cell? ⟨bb, 1, none⟩ = some (.int .i64 2) ∧ X.cell? ⟨be, 0, none⟩ = some (.int .i64 300) ∧ X.cell? ⟨be, 1, none⟩ = some (.int .i64 5) ∧ X.cell? ⟨be, 2, none⟩ = some (.int .i64 2) ∧ X.cell? ⟨be, 3, none⟩ = some (.string ⟨#[97, 98]⟩) ∧ Below w14.heap.size w14 X)) (by kernel_rfl) ?_ (fun hHeld => ?_)
 ·exact ⟨y0, y1, y2, y3, y4, y5, (Below.refl _ w14).drew⟩
 try dsimp only at hHeld
 refine hY 0 (some 86) hHeld ?_
 refine wpAnyH_ready (rs := [1]) (by kernel_rfl) (by simp) ?_
 refine (AllReadyH.cons rfl (fun K' hK' => ?_) AllReadyH.nil)
 go_simp
 refine hK'.out _ _ ?_ (fun hHeld => ?_)
 ·first | exact hHeld | exact SW.alloc hHeld _ | exact SW.alloc' hHeld _ | exact hs16 | exact SW.below hHeld ((Below.refl _ _).alloc (Nat.le_refl _) _) | go_keep
 clear hK' K'
 try dsimp only at hHeld
 try simp only [Act.put, List.setIfInBounds_toArray, List.set_cons_zero, List.set_cons_succ]
 refine wpAnyH_ready (rs := [2]) (by kernel_rfl) (by simp) ?_
 refine (AllReadyH.cons rfl (fun K' hK' => ?_) AllReadyH.nil)
 go_simp
 (refine (bequal_same _ _ bP5 _ (BP.out.below hHeld.2.2.2.2.2.2) (lit_bs _ _ _ _ (by simp) rfl (by decide) _ rfl)).mono ?_; rintro e w15 ⟨rfl, rfl⟩)
 go_wp2_with fail
 refine hK'.out _ _ ?_ (fun hHeld => ?_)
 ·first | exact hHeld | exact SW.alloc hHeld _ | exact SW.alloc' hHeld _ | exact hs16 | exact SW.below hHeld ((Below.refl _ _).alloc (Nat.le_refl _) _) | go_keep
 clear hK' K'
 try dsimp only at hHeld
 try simp only [Act.put, List.setIfInBounds_toArray, List.set_cons_zero, List.set_cons_succ]
 refine hY 3 (some 89) hHeld ?_
 refine hY 4 (some 90) hHeld ?_
 refine hY 5 (some 91) hHeld ?_
 refine hY 6 (some 92) hHeld ?_
 refine hY 7 (some 93) hHeld ?_
 refine hY 8 (some 94) hHeld ?_
 refine wpAnyH_ready (rs := [9]) (by kernel_rfl) (by simp) ?_
 refine (AllReadyH.cons rfl (fun K' hK' => ?_) AllReadyH.nil)
 go_simp
 refine hK'.out _ _ ?_ (fun hHeld => ?_)
 ·first | exact hHeld | exact SW.alloc hHeld _ | exact SW.alloc' hHeld _ | exact hs16 | exact SW.below hHeld ((Below.refl _ _).alloc (Nat.le_refl _) _) | go_keep
 clear hK' K'
 try dsimp only at hHeld
 try simp only [Act.put, List.setIfInBounds_toArray, List.set_cons_zero, List.set_cons_succ]
 refine wpAnyH_ready (rs := [10]) (by kernel_rfl) (by simp) ?_
 refine (AllReadyH.cons rfl (fun K' hK' => ?_) AllReadyH.nil)
 go_simp
 (refine (bequal_same _ _ bQ5 _ (BQ.out.below hHeld.2.2.2.2.2.2) (lit_bs _ _ _ _ (by simp) rfl (by decide) _ rfl)).mono ?_; rintro e w15 ⟨rfl, rfl⟩)
 go_wp2_with fail
 refine hK'.out _ _ ?_ (fun hHeld => ?_)
 ·first | exact hHeld | exact SW.alloc hHeld _ | exact SW.alloc' hHeld _ | exact hs16 | exact SW.below hHeld ((Below.refl _ _).alloc (Nat.le_refl _) _) | go_keep
 clear hK' K'
 try dsimp only at hHeld
 try simp only [Act.put, List.setIfInBounds_toArray, List.set_cons_zero, List.set_cons_succ]
 refine hY 11 (some 97) hHeld ?_
 refine hY 12 (some 98) hHeld ?_
 refine hY 13 (some 99) hHeld ?_
 refine hY 14 (some 100) hHeld ?_
 refine hY 15 (some 101) hHeld ?_
 refine hY 16 (some 102) hHeld ?_
 refine hY 17 (some 103) hHeld ?_
 refine wpAnyH_ready (rs := [18]) (by kernel_rfl) (by simp) ?_
 refine (AllReadyH.cons rfl (fun K' hK' => ?_) AllReadyH.nil)
 go_simp
 refine hK'.out _ _ ?_ (fun hHeld => ?_)
 ·first | exact hHeld | exact SW.alloc hHeld _ | exact SW.alloc' hHeld _ | exact hs16 | exact SW.below hHeld ((Below.refl _ _).alloc (Nat.le_refl _) _) | go_keep
 clear hK' K'
 try dsimp only at hHeld
 try simp only [Act.put, List.setIfInBounds_toArray, List.set_cons_zero, List.set_cons_succ]
 refine wpAnyH_ready (rs := [19]) (by kernel_rfl) (by simp) ?_
 refine (AllReadyH.cons rfl (fun K' hK' => ?_) AllReadyH.nil)
 go_simp
 (refine (bequal_same _ _ bS5 _ (BS.out.below hHeld.2.2.2.2.2.2) (lit_bs _ _ _ _ (by simp) rfl (by decide) _ rfl)).mono ?_; rintro e w15 ⟨rfl, rfl⟩)
 go_wp2_with fail
 refine hK'.out _ _ ?_ (fun hHeld => ?_)
 ·first | exact hHeld | exact SW.alloc hHeld _ | exact SW.alloc' hHeld _ | exact hs16 | exact SW.below hHeld ((Below.refl _ _).alloc (Nat.le_refl _) _) | go_keep
 clear hK' K'
 try dsimp only at hHeld
 try simp only [Act.put, List.setIfInBounds_toArray, List.set_cons_zero, List.set_cons_succ]
 refine hY 20 (some 106) hHeld ?_
 refine hY 21 (some 107) hHeld ?_
 refine hY 22 (some 108) hHeld ?_
 refine hY 23 (some 109) hHeld ?_
 refine hY 24 (some 110) hHeld ?_
 refine hY 25 (some 111) hHeld ?_
 refine hY 26 (some 112) hHeld ?_
 refine hY 28 (some 114) hHeld ?_
 refine wpAnyH_ready (rs := [27]) (by kernel_rfl) (by simp) ?_
 refine (AllReadyH.cons rfl (fun K' hK' => ?_) AllReadyH.nil)
 go_simp
 (refine (promW (N14.out.a.below hHeld.2.2.2.2.2.2)).mono ?_; rintro e w16 ⟨rfl, hb16⟩; have hs16 := SW.below hHeld hb16)
 go_wp2_with fail
 refine hK'.out _ _ ?_ (fun hHeld => ?_)
 ·first | exact hHeld | exact SW.alloc hHeld _ | exact SW.alloc' hHeld _ | exact hs16 | exact SW.below hHeld ((Below.refl _ _).alloc (Nat.le_refl _) _) | go_keep
 clear hK' K'
 try dsimp only at hHeld
 try simp only [Act.put, List.setIfInBounds_toArray, List.set_cons_zero, List.set_cons_succ]
 refine hY 29 (some 115) hHeld ?_
 refine hY 30 (some 116) hHeld ?_
 refine hY 31 (some 117) hHeld ?_
 refine hY 32 (some 118) hHeld ?_
 refine hY 33 (some 119) hHeld ?_
 refine hY 34 (some 120) hHeld ?_
 refine hY 35 (some 121) hHeld ?_
 refine hY 36 (some 122) hHeld ?_
 refine hY 37 (some 123) hHeld ?_
 refine hY 38 (some 124) hHeld ?_
 refine hY 39 (some 125) hHeld ?_
 refine hY 40 (some 126) hHeld ?_
 refine hY 41 (some 127) hHeld ?_
 refine hY 42 (some 128) hHeld ?_
 refine hY 43 (some 129) hHeld ?_
 refine hY 44 (some 130) hHeld ?_
 refine hY 45 (some 131) hHeld ?_
 refine hY 46 (some 132) hHeld ?_
 refine hY 47 (some 133) hHeld ?_
 refine hY 48 (some 134) hHeld ?_
 refine hY 49 (some 135) hHeld ?_
 refine hY 50 (some 136) hHeld ?_
 refine hY 51 (some 137) hHeld ?_
 refine hY 52 (some 138) hHeld ?_
 refine hY 53 (some 139) hHeld ?_
 refine hY 54 (some 140) hHeld ?_
 refine hY 55 (some 141) hHeld ?_
 refine wpAnyH_ready (rs := [56]) (by kernel_rfl) (by simp) ?_
 refine (AllReadyH.cons rfl (fun K' hK' => ?_) AllReadyH.nil)
 go_simp
 refine hK'.out _ _ ?_ (fun hHeld => ?_)
 ·first | exact hHeld | exact SW.alloc hHeld _ | exact SW.alloc' hHeld _ | exact hs16 | exact SW.below hHeld ((Below.refl _ _).alloc (Nat.le_refl _) _) | go_keep
 clear hK' K'
 try dsimp only at hHeld
 try simp only [Act.put, List.setIfInBounds_toArray, List.set_cons_zero, List.set_cons_succ]
 refine wpAnyH_ready (rs := [57]) (by kernel_rfl) (by simp) ?_
 refine (AllReadyH.cons rfl (fun K' hK' => ?_) AllReadyH.nil)
 go_simp
 (refine (bequal_same _ _ bW _ (BW.out.below hHeld.2.2.2.2.2.2) (lit_bs _ _ _ _ (by simp) rfl (by decide) _ rfl)).mono ?_; rintro e w15 ⟨rfl, rfl⟩)
 go_wp2_with fail
 refine hK'.out _ _ ?_ (fun hHeld => ?_)
 ·first | exact hHeld | exact SW.alloc hHeld _ | exact SW.alloc' hHeld _ | exact hs16 | exact SW.below hHeld ((Below.refl _ _).alloc (Nat.le_refl _) _) | go_keep
 clear hK' K'
 try dsimp only at hHeld
 try simp only [Act.put, List.setIfInBounds_toArray, List.set_cons_zero, List.set_cons_succ]
 refine hY 58 (some 144) hHeld ?_
 refine hY 59 (some 0) hHeld ?_
 refine wpAnyH_done (by kernel_rfl) ?_ _
 have HH := Lib.hid hHeld
 clear hHeld
 go_wp2_with fail
 go_returns
 exact ⟨rfl, HBB.out.trans (HH.out.2.2.2.2.2.2.mono HBB.out.size)⟩
end Go.Proofs.YtlfikhblmbidmaaGreatDoor