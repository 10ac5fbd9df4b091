import Derived.Test.YtlfikhblmbidmaaGreatDoorLoadB
import Derived.Deep.DeepCutAuto
import Derived.Deep.CutBlock
import Derived.Deep.LoopGhost
import Derived.Deep.RegionHeld3
set_option linter.all false
namespace Go.Proofs.YtlfikhblmbidmaaGreatDoor
open Go.RowKit Go.Maps
def ldC (n : Int) (ra rb b0 : Nat) (es : List Et) (s : Rd) : Option (NSt × Rd) := (rdN 4096 s).bind fun c => (rdN 4096 c.2).bind fun m => (hasP m.1 ((c.1 : Int) - 1) m.2).bind fun h =>
  (lpF (ljmpS newLog (c.1 : Int)) h.1).map fun l => (⟨⟨n, ra, rb, b0, toEL es⟩, l⟩, h.2)
def ldB (n : Int) (ra rb : Nat) (s : Rd) : Option (NSt × Rd) := (rdN 4096 s).bind fun b => (rdN 4096 b.2).bind fun k => (entP n (ra, rb) k.1 ((b.1 : Int) - 1) k.2).bind fun e => ldC n ra rb b.1 e.1 e.2
theorem loadP_none {n : Int} {s : Rd} (h : rdB s = none) : loadP n s = none := by unfold loadP; rw [h]; rfl
theorem loadP_some {n : Int} {s s1 : Rd} {a b : Nat} (h : rdB s = some ((a, b), s1)) : loadP n s = if (a = 0 ∧ b = 0) ∨ goodB n a b = true then ldB n a b s1 else none := by unfold loadP; rw [h]; rfl
theorem ldB_1 {n : Int} {a b : Nat} {s : Rd} (h : rdN 4096 s = none) : ldB n a b s = none := by unfold ldB; rw [h]; rfl
theorem ldB_2 {n : Int} {a b b0 : Nat} {s s1 : Rd} (h : rdN 4096 s = some (b0, s1)) (h2 : rdN 4096 s1 = none) : ldB n a b s = none := by unfold ldB; rw [h]; show (rdN 4096 s1).bind _ = none; rw [h2]; rfl
theorem ldB_3 {n : Int} {a b b0 k : Nat} {s s1 s2 : Rd} (h : rdN 4096 s = some (b0, s1)) (h2 : rdN 4096 s1 = some (k, s2)) : ldB n a b s = (entP n (a, b) k ((b0 : Int) - 1) s2).bind fun e => ldC n a b b0 e.1 e.2 := by
 unfold ldB; rw [h]; show (rdN 4096 s1).bind _ = _; rw [h2]; rfl
def LoadPost (w : World) (lo p a m q k : Nat) (n : Int) (st : Rd) (e : Ending) (w' : World) : Prop :=
 match loadP n st with
 | none => e = .panicked malC ∧ Fr (LF p a m q k) w w'
 | some x => e = .returned (.tuple #[]) ∧ RdAt w' lo p x.2 ∧ NS w' a m q k x.1 ∧ Fr (LF p a m q k) w w'
theorem LoadPost.no {w w' : World} {lo p a m q k : Nat} {n : Int} {st : Rd} (h : loadP n st = none) (hf : Fr (LF p a m q k) w w') : LoadPost w lo p a m q k n st (.panicked malC) w' := by
 unfold LoadPost
 rw [h]
 exact ⟨rfl, hf⟩
theorem LoadPost.yes {w w' : World} {lo p a m q k : Nat} {n : Int} {st : Rd} {x : NSt × Rd} (h : loadP n st = some x) (h1 : RdAt w' lo p x.2) (h2 : NS w' a m q k x.1) (hf : Fr (LF p a m q k) w w') : LoadPost w lo p a m q k n st (.returned (.tuple #[])) w' := by
 unfold LoadPost
 rw [h]
 exact ⟨rfl, h1, h2, hf⟩
theorem newN_a (n : Int) (b0 : Nat) (hb : b0 ≤ 4096) : foE (b0 : Int) = 0 ∧ foS (newS n) (b0 : Int) = ⟨n, 0, 0, b0, []⟩ := by
 have h : foE (b0 : Int) = 0 := by unfold foE; rw [if_neg (by omega)]
 refine ⟨h, ?_⟩
 unfold foS
 rw [if_pos h]
 have : max (0 : Int) (b0 : Int) = b0 := by omega
 show (⟨n, 0, 0, max 0 (b0 : Int), forL _ []⟩ : ASt) = _
 rw [this]
 rfl
set_option maxRecDepth 100000 in
set_option maxHeartbeats 8000000 in
theorem load_any (n : Int) (hn : okN n) (lo p a m q k : Nat) (st : Rd) (w : World) (hr : RdAt w lo p st) (hs : Rsmall st) (hns : NS w a m q k (newN n)) (hnlo : ∀ i, nF a m q k i → i < lo) :
  Calls Tryz.prog 73 #[.agg #[.pointer (some ⟨a, 0, none⟩), .pointer (some ⟨q, 0, none⟩)], .int .i64 n, rdV p] w (LoadPost w lo p a m q k n st) := by
 have hmf : ∀ (fn : Fn) (first cap : Array Value) (w : World), (Instr.makeFunc fn first cap).run Tryz.prog w = .ok (.func fn first cap) w := fun _ _ _ _ => rfl
 have hE := fun (a b c d : Int) (w : World) => eqBal a b c d w
 have hG := eqGBal
 have hB0 := fun w => bldBal0 w
 have b1 := box_below w (.cells #[.pointer (some ⟨a, 0, none⟩), .pointer (some ⟨q, 0, none⟩)] 113)
 have b2 := box_below (w.alloc (.cells #[.pointer (some ⟨a, 0, none⟩), .pointer (some ⟨q, 0, none⟩)] 113)) (.cells #[.int .i64 n] 3)
 have b3 := box_below ((w.alloc (.cells #[.pointer (some ⟨a, 0, none⟩), .pointer (some ⟨q, 0, none⟩)] 113)).alloc (.cells #[.int .i64 n] 3)) (.cells #[.pointer (some ⟨p, 0, none⟩)] 117)
 have k1 := (Blk.new w 113 #[.pointer (some ⟨a, 0, none⟩), .pointer (some ⟨q, 0, none⟩)]).of_block (b2.block _ (by simp))
 have k1' := k1.of_block (b3.block _ k1.lt)
 have k2 := (Blk.new (w.alloc (.cells #[.pointer (some ⟨a, 0, none⟩), .pointer (some ⟨q, 0, none⟩)] 113)) 3 #[.int .i64 n]).of_block (b3.block _ (by simp))
 have k3 := Blk.new ((w.alloc (.cells #[.pointer (some ⟨a, 0, none⟩), .pointer (some ⟨q, 0, none⟩)] 113)).alloc (.cells #[.int .i64 n] 3)) 117 #[.pointer (some ⟨p, 0, none⟩)]
 have bw := (b1.trans (b2.mono (by simp))).trans (b3.mono (by simp; omega))
 have hpl := hr.lt
 obtain ⟨sb, hsb⟩ : ∃ sb, w.heap.size = sb := ⟨_, rfl⟩
 have hz1 : (w.alloc (.cells #[.pointer (some ⟨a, 0, none⟩), .pointer (some ⟨q, 0, none⟩)] 113)).heap.size = sb + 1 := by rw [World.size_alloc, hsb]
 have hz2 : ((w.alloc (.cells #[.pointer (some ⟨a, 0, none⟩), .pointer (some ⟨q, 0, none⟩)] 113)).alloc (.cells #[.int .i64 n] 3)).heap.size = sb + 2 := by rw [World.size_alloc, hz1]
 have hz3 : (((w.alloc (.cells #[.pointer (some ⟨a, 0, none⟩), .pointer (some ⟨q, 0, none⟩)] 113)).alloc (.cells #[.int .i64 n] 3)).alloc (.cells #[.pointer (some ⟨p, 0, none⟩)] 117)).heap.size = sb + 3 := by rw [World.size_alloc, hz2]
 rw [hsb] at k1' hpl
 rw [hz1] at k2
 rw [hz2] at k3
 have L0 := Lib.hid (show LdS (((w.alloc (.cells #[.pointer (some ⟨a, 0, none⟩), .pointer (some ⟨q, 0, none⟩)] 113)).alloc (.cells #[.int .i64 n] 3)).alloc (.cells #[.pointer (some ⟨p, 0, none⟩)] 117)) (((w.alloc (.cells #[.pointer (some ⟨a, 0, none⟩), .pointer (some ⟨q, 0, none⟩)] 113)).alloc (.cells #[.int .i64 n] 3)).alloc (.cells #[.pointer (some ⟨p, 0, none⟩)] 117)) sb lo p a m q k n st (newN n) from
  ⟨hr.below bw, hns.below bw, k1', k2, k3, Fr.refl _ _, hnlo, hpl, by rw [hz3]; exact Nat.le_refl _⟩)
 have BW := Lib.hid bw
 clear b1 b2 b3 k1 k1' k2 k3 bw hr hns
 go_enter Tryz.func73, Tryz.ntmps73
 go_upto_region 2 with fail
 generalize (((w.alloc (.cells #[.pointer (some ⟨a, 0, none⟩), .pointer (some ⟨q, 0, none⟩)] 113)).alloc (.cells #[.int .i64 n] 3)).alloc (.cells #[.pointer (some ⟨p, 0, none⟩)] 117)) = W at *
 clear hz1 hz2
 have FW : Hid (∀ X : World, Fr (LF p a m q k) W X → Fr (LF p a m q k) w X) := fun X f => (Fr.of_below BW.out).trans f
 have HS := Lib.hid hs
 clear hs BW
 have c00 := L0.out.c3
 cases hrb : rdB st with
 | none =>
  go_wp2_with (go_at_call 158; refine (rbal_none lo p st _ L0.out.rd HS.out hrb).mono ?_; rintro e w1 ⟨rfl, hf⟩; have F1 := Lib.hid (show Fr (LF p a m q k) _ _ from hf.mono fun i e => .inl e); clear hf)
  exact ⟨rfl, LoadPost.no (loadP_none hrb) (FW.out _ F1.out)⟩
 | some x =>
 obtain ⟨⟨ra, rb⟩, s1⟩ := x
 have HP1 := Lib.hid (loadP_some (n := n) hrb)
 have HS1 := Lib.hid (HS.out.b hrb)
 have hle := rdB_le hrb
 go_upto_region 3 with (go_at_call 158; refine (rbal_some lo p ra rb st s1 _ L0.out.rd HS.out hrb).mono ?_; rintro e w1 ⟨rfl, hf⟩; have L1 := Lib.hid (L0.out.rstep hf); clear hf)
 clear hrb HS L0
 have HBX := box_below w1 (.cells #[.int .i64 (ra : Int), .int .i64 (rb : Int)] 24)
 have PB := Lib.hid (Blk.new w1 24 #[.int .i64 (ra : Int), .int .i64 (rb : Int)])
 have L2 := Lib.hid (L1.out.below HBX)
 have hpb : sb + 3 ≤ w1.heap.size := by have := L1.out.fr.size; omega
 obtain ⟨pb, hpbe⟩ : ∃ pb, w1.heap.size = pb := ⟨_, rfl⟩
 rw [hpbe] at PB hpb ⊢
 have hpl2 := PB.out.lt
 clear HBX L1 hpbe
 generalize (w1.alloc (.cells #[.int .i64 (ra : Int), .int .i64 (rb : Int)] 24)) = w2 at *
 have p0 := PB.out.cell (i := 0) (v := .int .i64 (ra : Int)) rfl
 have p1 := PB.out.cell (i := 1) (v := .int .i64 (rb : Int)) rfl
 have c20 := L2.out.c2
 have c21 := L2.out.c3
 obtain ⟨gd, hgd⟩ : ∃ gd, goodB n (ra : Int) (rb : Int) = gd := ⟨_, rfl⟩
 have HGD := Lib.hid (fun X h => lgood_any (sb + 1) n (ra : Int) (rb : Int) X h)
 rw [hgd] at HGD
 have HGE := Lib.hid hgd
 clear hgd
 go_cut [] (fun wx => (((ra = 0 ∧ rb = 0) ∨ gd = true) ∧ Below w2.heap.size w2 wx))
 case first =>
  by_cases hz : ra = 0 ∧ rb = 0
  ·have hz' : ((ra : Int) == 0 && (rb : Int) == 0) = true := by simp; omega
   go_wp2_with (go_at_call 159; refine (need_yes _).mono ?_; rintro e w3 ⟨rfl, rfl⟩)
   go_meet
   exact ⟨.inl hz, Below.refl _ _⟩
  ·have hz' : ((ra : Int) == 0 && (rb : Int) == 0) = false := by
    rw [Bool.eq_false_iff]
    intro h
    simp at h
    omega
   cases gd with
   | true =>
    go_wp2_with (first
     | (go_at_call 157; (with_reducible refine (HGD.out _ ?_).mono ?_); exact c20; rintro e w3 ⟨rfl, hb⟩; have B3 := Lib.hid hb; clear hb)
     | (go_at_call 159; refine (need_yes _).mono ?_; rintro e w3 ⟨rfl, rfl⟩))
    go_meet
    exact ⟨by simp, B3.out⟩
   | false =>
    go_wp2_with (first
     | (go_at_call 157; (with_reducible refine (HGD.out _ ?_).mono ?_); exact c20; rintro e w3 ⟨rfl, hb⟩; have L3 := Lib.hid (L2.out.below hb); clear hb)
     | (go_at_call 159; refine (need_no _).mono ?_; rintro e w4 ⟨rfl, rfl⟩))
    exact ⟨rfl, LoadPost.no (by rw [HP1.out, if_neg (by rw [HGE.out]; rintro (h | h); exact hz h; cases h)]) (FW.out _ L3.out.fr)⟩
 case rest =>
 obtain ⟨hcond, hbw⟩ := hcut
 have HP2 : Hid (loadP n st = ldB n ra rb s1) := by rw [Hid, HP1.out, HGE.out, if_pos hcond]
 have L3 := Lib.hid (L2.out.below hbw)
 have PB3 := Lib.hid (PB.out.of_block (hbw.block _ PB.out.lt))
 have HC3 := Lib.hid hcond
 have hwc := hbw.size
 clear hcond hbw p0 p1 c20 c21 L2 PB HP1
 have c30 := L3.out.c3
 cases hn1 : rdN 4096 s1 with
 | none =>
  go_wp2_with (go_at_call 160; refine (rnum_no lo p 4096 s1 _ L3.out.rd HS1.out (by decide) hn1).mono ?_; rintro e w4 ⟨rfl, hf⟩; have F4 := Lib.hid (show Fr (LF p a m q k) _ _ from hf.mono fun i e => .inl e); clear hf)
  exact ⟨rfl, LoadPost.no (by rw [HP2.out, ldB_1 hn1]) (FW.out _ (L3.out.fr.trans F4.out))⟩
 | some x =>
 obtain ⟨b0, s2⟩ := x
 have hb0 : b0 ≤ 4096 := (rdN_dec hn1).2
 have HS2 := Lib.hid (HS1.out.n hn1)
 have HFO := Lib.hid (newN_a n b0 hb0)
 go_upto_region 5 with (go_at_call 160; refine (rnum_yes lo p 4096 b0 s1 s2 _ L3.out.rd HS1.out (by decide) hn1).mono ?_; rintro e w4 ⟨rfl, hf⟩; have L4 := Lib.hid (L3.out.rstep hf); have PB4 := Lib.hid (PB3.out.fr hf.fr (fun e => by have e : pb = p := e; omega)); clear hf)
 clear L3 PB3 c30 HS1
 have c40 := L4.out.c0
 have c43 := L4.out.c3
 go_upto_region 6 with (first
  | (go_at_call 44; refine (forget_S a m (newS n) _ (b0 : Int) L4.out.ns.a).mono ?_; rw [HFO.out.1, HFO.out.2]; rintro e w5 ⟨rfl, hs, hf⟩; have hf2 : Fr (nF a m q k) w4 w5 := (hf.mono fun i e => (by rcases e with e | e; exact .inl e; exact .inr (.inl e))); have L5 := Lib.hid (L4.out.nstep (L4.out.ns.withA hs hf (fun i e => e)) hf2); have PB5 := Lib.hid (PB4.out.fr hf2 (fun e => by have := L4.out.nlo _ e; have := L4.out.lop; omega)); clear hs hf hf2)
  | (go_at_call 159; refine (need_yes _).mono ?_; rintro e w6 ⟨rfl, rfl⟩))
 clear L4 PB4 c40 c43
 have c50 := L5.out.c3
 cases hn2 : rdN 4096 s2 with
 | none =>
  go_wp2_with (go_at_call 160; refine (rnum_no lo p 4096 s2 _ L5.out.rd HS2.out (by decide) hn2).mono ?_; rintro e w6 ⟨rfl, hf⟩; have F6 := Lib.hid (show Fr (LF p a m q k) _ _ from hf.mono fun i e => .inl e); clear hf)
  exact ⟨rfl, LoadPost.no (by rw [HP2.out, ldB_2 hn1 hn2]) (FW.out _ (L5.out.fr.trans F6.out))⟩
 | some x =>
 obtain ⟨N, s3⟩ := x
 have hNn : N ≤ 4096 := (rdN_dec hn2).2
 have HS3 := Lib.hid (HS2.out.n hn2)
 have HP3 : Hid (loadP n st = (entP n (ra, rb) N ((b0 : Int) - 1) s3).bind fun e => ldC n ra rb b0 e.1 e.2) := by rw [Hid, HP2.out, ldB_3 hn1 hn2]
 obtain ⟨MC, hmk, hmr⟩ := mkEnt N hNn
 have HMR := Lib.hid hmr
 clear hmr HP2
 go_upto_region 7 with (go_at_call 160; refine (rnum_yes lo p 4096 N s2 s3 _ L5.out.rd HS2.out (by decide) hn2).mono ?_; rintro e w6 ⟨rfl, hf⟩; have L6 := Lib.hid (L5.out.rstep hf); have PB6 := Lib.hid (PB5.out.fr hf.fr (fun e => by have e : pb = p := e; omega)); clear hf)
 have HBX := box_below w6 (.cells MC 128)
 have R7 := Lib.hid (HMR.out w6)
 have L7 := Lib.hid (L6.out.below HBX)
 have PB7 := Lib.hid (PB6.out.of_block (HBX.block _ PB6.out.lt))
 have hgb : pb < w6.heap.size := PB6.out.lt
 obtain ⟨g, hg⟩ : ∃ g, w6.heap.size = g := ⟨_, rfl⟩
 rw [hg] at R7 hgb ⊢
 clear HBX L6 PB6 HMR hmk hg L5 PB5 HFO c50 HS2 hn1 hn2
 generalize (w6.alloc (.cells MC 128)) = w7 at *
 have LR7 := Lib.hid (show LdR W w7 sb lo p a m q k n s3 ⟨⟨n, 0, 0, b0, []⟩, newLog⟩ pb (ra : Int) (rb : Int) g (List.replicate N zEt) from ⟨L7.out, PB7.out, R7.out, hpb, hgb⟩)
 clear L7 PB7 R7
 go_wp2_with fail
 go_loopg [44, 8] N (fun gh ci cl wr => ∃ (i : Nat) (last : Int) (si : Rd) (D : List Et), i ≤ N ∧ gh = N - i ∧ ci = .int .i64 (i : Int) ∧ cl = .int .i64 last ∧ D.length = i ∧ -1 ≤ last ∧ last ≤ 4095 ∧ Rsmall si ∧ entP n (ra, rb) N ((b0 : Int) - 1) s3 = entR n (ra, rb) (N - i) last si D ∧
  LdR W wr sb lo p a m q k n si ⟨⟨n, 0, 0, b0, []⟩, newLog⟩ pb (ra : Int) (rb : Int) g (D ++ List.replicate (N - i) zEt))
 case atStart => exact ⟨0, (b0 : Int) - 1, s3, [], by omega, by omega, rfl, rfl, rfl, by omega, by omega, HS3.out, by rw [Nat.sub_zero, entR_start], by simpa using LR7.out⟩
 case round =>
  obtain ⟨i, last, si, D, hiN, rfl, rfl, rfl, hdl, hl1, hl2, hsi, hld, hL⟩ := hrel
  obtain ⟨wo, rfl⟩ : ∃ wo : World, wo = wr := ⟨_, rfl⟩
  have HSI := Lib.hid hsi
  have HLD := Lib.hid hld
  have LL := Lib.hid hL
  have HDL := Lib.hid hdl
  clear hdl hsi hld hL LR7 HS3
  by_cases hlt : i < N
  case pos =>
   have HLD1 : Hid (entP n (ra, rb) N ((b0 : Int) - 1) s3 = entR n (ra, rb) (N - (i + 1) + 1) last si D) := by rw [Hid, HLD.out, show N - i = N - (i + 1) + 1 by omega]
   have c80 := LL.out.l.c3
   clear HLD
   cases hsl : rdN 4095 si with
   | none =>
    go_wp2_with (go_at_call 160; refine (rnum_no lo p 4095 si _ LL.out.l.rd HSI.out (by decide) hsl).mono ?_; rintro e w9 ⟨rfl, hf⟩; have F9 := Lib.hid (show Fr (LF p a m q k) _ _ from hf.mono fun i e => .inl e); clear hf)
    exact ⟨rfl, LoadPost.no (by rw [HP3.out, HLD1.out, entR_none (rdEt_no1 hsl)]; rfl) (FW.out _ (LL.out.l.fr.trans F9.out))⟩
   | some x =>
   obtain ⟨sl, t1⟩ := x
   have hsl4 : sl ≤ 4095 := (rdN_dec hsl).2
   have HT1 := Lib.hid (HSI.out.n hsl)
   have hbe := fun (s : Int) (X : World) => bldEnt1 s X
   go_upto_region 11 with (go_at_call 160; refine (rnum_yes lo p 4095 sl si t1 _ LL.out.l.rd HSI.out (by decide) hsl).mono ?_; rintro e w9 ⟨rfl, hf⟩; have L9 := Lib.hid (LL.out.rstep hf); clear hf)
   have HBX := box_below w9 (.cells #[.int .i64 (sl : Int), .int .i64 0, .int .i64 0, .string ⟨#[]⟩] 128)
   have XB10 := Lib.hid (Blk.new w9 128 #[.int .i64 (sl : Int), .int .i64 0, .int .i64 0, .string ⟨#[]⟩])
   have L10 := Lib.hid (L9.out.below HBX)
   have hgx : g < w9.heap.size := L9.out.row.lt
   have hpx : p < w9.heap.size := L9.out.l.rd.lt
   obtain ⟨xb, hxb⟩ : ∃ xb, w9.heap.size = xb := ⟨_, rfl⟩
   rw [hxb] at XB10 hgx hpx ⊢
   clear HBX L9 LL hxb c80 HSI
   generalize (w9.alloc (.cells #[.int .i64 (sl : Int), .int .i64 0, .int .i64 0, .string ⟨#[]⟩] 128)) = w10 at *
   have d0 := L10.out.l.c3
   cases hbl : rdB t1 with
   | none =>
    go_wp2_with (go_at_call 158; refine (rbal_none lo p t1 _ L10.out.l.rd HT1.out hbl).mono ?_; rintro e w11 ⟨rfl, hf⟩; have F11 := Lib.hid (show Fr (LF p a m q k) _ _ from hf.mono fun i e => .inl e); clear hf)
    exact ⟨rfl, LoadPost.no (by rw [HP3.out, HLD1.out, entR_none (rdEt_no2 hsl hbl)]; rfl) (FW.out _ (L10.out.l.fr.trans F11.out))⟩
   | some x =>
   obtain ⟨⟨eb, ec⟩, t2⟩ := x
   have HT2 := Lib.hid (HT1.out.b hbl)
   have hec := rdB_le hbl
   have hrd := rdEt_yes hsl hbl
   obtain ⟨tx, htx⟩ : ∃ tx, sB (rdT t2).1 = tx := ⟨_, rfl⟩
   obtain ⟨t3, ht3⟩ : ∃ t3, (rdT t2).2 = t3 := ⟨_, rfl⟩
   have HT3 : Hid (Rsmall t3) := by rw [Hid, ← ht3]; exact HT2.out.t
   have HTX := Lib.hid (fun (X : World) (h : RdAt X lo p t2) => rtext_any lo p t2 X h HT2.out)
   rw [htx, ht3] at HTX
   rw [htx, ht3] at hrd
   have HRD := Lib.hid hrd
   have hse := rdEt_ok hrd
   clear hrd htx ht3 hsl
   go_upto_region 12 with (go_at_call 158; refine (rbal_some lo p eb ec t1 t2 _ L10.out.l.rd HT1.out hbl).mono ?_; rintro e w11 ⟨rfl, hf⟩; have L11 := Lib.hid (L10.out.rstep hf); have XB11 := Lib.hid (XB10.out.fr hf.fr (fun e => by have e : xb = p := e; omega)); have f1 := XB11.out.frozen 1; have f2 := XB11.out.frozen 2; have g1 := XB11.out.cell (i := 1) (v := .int .i64 0) rfl; have g2 := XB11.out.cell (i := 2) (v := .int .i64 0) rfl; clear hf)
   have L12 := Lib.hid ((L11.out.setc hgx 1 (.int .i64 (eb : Int))).setc hgx 2 (.int .i64 (ec : Int)))
   have XB12 := Lib.hid ((XB11.out.set 1 (.int .i64 (eb : Int))).set 2 (.int .i64 (ec : Int)))
   clear f1 f2 g1 g2 L11 XB11 L10 XB10 d0
   generalize ((w11.setCell ⟨xb, 1, none⟩ (.int .i64 (eb : Int))).setCell ⟨xb, 2, none⟩ (.int .i64 (ec : Int))) = w12 at *
   have XB12 := Lib.hid (show Blk w12 xb 128 #[.int .i64 (sl : Int), .int .i64 (eb : Int), .int .i64 (ec : Int), .string ⟨#[]⟩] from XB12.out)
   have d0 := L12.out.l.c3
   go_upto_region 13 with (go_at_call 161; refine (HTX.out _ L12.out.l.rd).mono ?_; rintro e w13 ⟨rfl, hf⟩; have L13 := Lib.hid (L12.out.rstep hf); have XB13 := Lib.hid (XB12.out.fr hf.fr (fun e => by have e : xb = p := e; omega)); have f3 := XB13.out.frozen 3; have g3 := XB13.out.cell (i := 3) (v := .string ⟨#[]⟩) rfl; clear hf)
   have L14 := Lib.hid (L13.out.setc hgx 3 (.string tx))
   have XB14 := Lib.hid (show Blk (w13.setCell ⟨xb, 3, none⟩ (.string tx)) xb 128 #[.int .i64 (sl : Int), .int .i64 (eb : Int), .int .i64 (ec : Int), .string tx] from XB13.out.set 3 (.string tx))
   clear f3 g3 L13 XB13 L12 XB12 d0
   generalize (w13.setCell ⟨xb, 3, none⟩ (.string tx)) = w14 at *
   have x0 := XB14.out.cell (i := 0) (v := .int .i64 (sl : Int)) rfl
   have x1 := XB14.out.cell (i := 1) (v := .int .i64 (eb : Int)) rfl
   have x2 := XB14.out.cell (i := 2) (v := .int .i64 (ec : Int)) rfl
   have x3 := XB14.out.cell (i := 3) (v := .string tx) rfl
   have e0 := L14.out.e0
   have e1 := L14.out.e1
   have cn := L14.out.l.c2
   have HBAD : Hid (¬ entOk n (ra, rb) last ⟨(sl : Int), (eb : Int), (ec : Int), tx⟩ → loadP n st = none) := fun hb => by rw [HP3.out, HLD1.out, entR_bad HRD.out hb]; rfl
   by_cases h1 : last < (sl : Int)
   case neg =>
    have hd : decide ((sl : Int) > last) = false := decide_eq_false (by omega)
    go_wp2_with (go_at_call 159; refine (need_no _).mono ?_; rintro e w15 ⟨rfl, rfl⟩)
    exact ⟨rfl, LoadPost.no (HBAD.out fun h => by have h : last < (sl : Int) := h.1; omega) (FW.out _ L14.out.l.fr)⟩
   case pos =>
   have hd : decide ((sl : Int) > last) = true := decide_eq_true (by omega)
   have HG2 := Lib.hid (fun X h => lgood_any (sb + 1) n (eb : Int) (ec : Int) X h)
   cases hg2 : goodB n (eb : Int) (ec : Int) with
   | false =>
    rw [hg2] at HG2
    go_wp2_with (first
     | (go_at_call 157; (with_reducible refine (HG2.out _ ?_).mono ?_); exact cn; rintro e w15 ⟨rfl, hb⟩; have L15 := Lib.hid (L14.out.below hb); clear hb)
     | (go_at_call 159; refine (need_no _).mono ?_; rintro e w16 ⟨rfl, rfl⟩))
    exact ⟨rfl, LoadPost.no (HBAD.out fun h => by have h := h.2.1; rw [show goodB n (eb : Int) (ec : Int) = false from hg2] at h; cases h) (FW.out _ L15.out.l.fr)⟩
   | true =>
   rw [hg2] at HG2
   obtain ⟨od, hod⟩ : ∃ od, ordB ((eb : Int), (ec : Int)) ((ra : Int), (rb : Int)) = od := ⟨_, rfl⟩
   have HOD := Lib.hid (fun X => order_any (eb : Int) (ec : Int) (ra : Int) (rb : Int) X)
   rw [hod] at HOD
   by_cases h3 : od ≤ 0
   case neg =>
    have hd3 : decide (od ≤ 0) = false := decide_eq_false h3
    go_wp2_with (first
     | (go_at_call 157; (with_reducible refine (HG2.out _ ?_).mono ?_); exact cn; rintro e w15 ⟨rfl, hb⟩; have L15 := Lib.hid (L14.out.below hb); have y1 := bcell hb x1; have y2 := bcell hb x2; have q0 := bcell hb e0; have q1 := bcell hb e1; clear hb)
     | (go_at_call 121; (with_reducible refine (HOD.out _).mono ?_); rintro e w16 ⟨rfl, hb⟩; have L16 := Lib.hid (L15.out.below hb); clear hb)
     | (go_at_call 159; refine (need_no _).mono ?_; rintro e w17 ⟨rfl, rfl⟩))
    exact ⟨rfl, LoadPost.no (HBAD.out fun h => by have h : ordB ((eb : Int), (ec : Int)) ((ra : Int), (rb : Int)) ≤ 0 := h.2.2; rw [hod] at h; omega) (FW.out _ L16.out.l.fr)⟩
   case pos =>
   have hd3 : decide (od ≤ 0) = true := decide_eq_true h3
   have hok : entOk n (ra, rb) last ⟨(sl : Int), (eb : Int), (ec : Int), tx⟩ := ⟨h1, hg2, by rw [← hod] at h3; exact h3⟩
   have HLD2 : Hid (entP n (ra, rb) N ((b0 : Int) - 1) s3 = entR n (ra, rb) (N - (i + 1)) (sl : Int) t3 (D ++ [⟨(sl : Int), (eb : Int), (ec : Int), tx⟩])) := by rw [Hid, HLD1.out, entR_step HRD.out hok]
   clear HLD1 HBAD hod
   go_upto_region 14 with (first
     | (go_at_call 157; (with_reducible refine (HG2.out _ ?_).mono ?_); exact cn; rintro e w15 ⟨rfl, hb⟩; have L15 := Lib.hid (L14.out.below hb); have XB15 := Lib.hid (XB14.out.of_block (hb.block _ XB14.out.lt)); have y1 := bcell hb x1; have y2 := bcell hb x2; have q0 := bcell hb e0; have q1 := bcell hb e1; clear hb)
     | (go_at_call 121; (with_reducible refine (HOD.out _).mono ?_); rintro e w16 ⟨rfl, hb⟩; have L16 := Lib.hid (L15.out.below hb); have XB16 := Lib.hid (XB15.out.of_block (hb.block _ XB15.out.lt)); clear hb)
     | (go_at_call 159; refine (need_yes _).mono ?_; rintro e w17 ⟨rfl, rfl⟩))
   clear x0 x1 x2 x3 y1 y2 q0 q1 e0 e1 cn L14 L15 XB14 XB15 HG2 HOD
   have x0 := XB16.out.cell (i := 0) (v := .int .i64 (sl : Int)) rfl
   have x1 := XB16.out.cell (i := 1) (v := .int .i64 (eb : Int)) rfl
   have x2 := XB16.out.cell (i := 2) (v := .int .i64 (ec : Int)) rfl
   have x3 := XB16.out.cell (i := 3) (v := .string tx) rfl
   have hlen : (D ++ List.replicate (N - i) zEt).length = N := by rw [List.length_append, List.length_replicate, HDL.out]; omega
   have RD := L16.out.row.drew
   have hiM : i < (D ++ List.replicate (N - i) zEt).length := by omega
   have s1 := RD.put hiM ⟨(sl : Int), (eb : Int), (ec : Int), tx⟩
   have R1 := RD.store evl hiM ⟨(sl : Int), (eb : Int), (ec : Int), tx⟩
   rw [row_set _ HDL.out hlt] at R1
   have L17 := Lib.hid (L16.out.drew.rowTo (fr_setCellsK g (i * 4) (encEt ⟨(sl : Int), (eb : Int), (ec : Int), tx⟩) w16.drew) R1)
   have HD2 : Hid ((D ++ [(⟨(sl : Int), (eb : Int), (ec : Int), tx⟩ : Et)]).length = i + 1) := by rw [Hid, List.length_append, HDL.out]; rfl
   have fK := fr_setCellsK g (i * 4) (encEt ⟨(sl : Int), (eb : Int), (ec : Int), tx⟩) w16.drew
   have hxg : ∀ j, ¬ S1 g (⟨xb, j, none⟩ : Addr).block := fun j e => by have e : xb = g := e; omega
   have K17 := Lib.hid (show _ ∧ _ ∧ _ ∧ _ from ⟨fK.cell (p := ⟨xb, 0, none⟩) (hxg 0) x0, fK.cell (p := ⟨xb, 1, none⟩) (hxg 1) x1, fK.cell (p := ⟨xb, 2, none⟩) (hxg 2) x2, fK.cell (p := ⟨xb, 3, none⟩) (hxg 3) x3⟩)
   obtain ⟨w17, hw17⟩ : ∃ W1, W1 = w16.drew.setCells g (i * 4) (encEt ⟨(sl : Int), (eb : Int), (ec : Int), tx⟩) := ⟨_, rfl⟩
   rw [← hw17] at s1 L17 K17
   have S1' := Lib.hid s1
   have hi9 : N ≤ 9223372036854775807 := by omega
   clear fK s1 R1 RD hw17 hlen hiM XB16 L16 HRD
   refine wp_region_held_drew (S := (fun W => W.cell? ⟨xb, 0, none⟩ = some (.int .i64 (sl : Int)) ∧ W.cell? ⟨xb, 1, none⟩ = some (.int .i64 (eb : Int)) ∧ W.cell? ⟨xb, 2, none⟩ = some (.int .i64 (ec : Int)) ∧ W.cell? ⟨xb, 3, none⟩ = some (.string tx))) (by kernel_rfl) ?_ (fun hHeld => ?_)
   ·exact ⟨x0, x1, x2, x3⟩
   try dsimp only at hHeld
   refine hY 0 (some 75) hHeld ?_
   refine hY 1 (some 76) hHeld ?_
   refine hY 2 (some 77) hHeld ?_
   refine hY 3 (some 78) hHeld ?_
   refine hY 4 (some 79) hHeld ?_
   refine hY 5 (some 8) hHeld ?_
   refine wpAnyH_ready (rs := [6]) (by kernel_rfl) (by simp) ?_
   refine (AllReadyH.cons rfl (fun K' hK' => ?_) AllReadyH.nil)
   go_simp
   refine hK'.out _ _ ?_ (fun hHeld => ?_)
   ·first | exact hHeld | exact K17.out
   clear hK' K'
   try dsimp only at hHeld
   try simp only [Act.put, List.setIfInBounds_toArray, List.set_cons_zero, List.set_cons_succ]
   refine wpAnyH_ready (rs := [7]) (by kernel_rfl) (by simp) ?_
   refine (AllReadyH.cons rfl (fun K' hK' => ?_) AllReadyH.nil)
   (refine step_str rfl _ _ _ rfl rfl rfl S1'.out ?_)
   refine hK'.out _ _ ?_ (fun hHeld => ?_)
   ·first | exact hHeld | exact K17.out
   clear hK' K'
   try dsimp only at hHeld
   try simp only [Act.put, List.setIfInBounds_toArray, List.set_cons_zero, List.set_cons_succ]
   refine wpAnyH_done (by kernel_rfl) ?_ _
   (go_wp2_with fail; go_roundg (N - (i + 1)); (case measure => omega); (case rel => exact ⟨i + 1, (sl : Int), t3, _, by omega, rfl, by go_num, rfl, HD2.out, by omega, by omega, HT3.out, HLD2.out, L17.out⟩))
  case neg =>
  obtain rfl : i = N := by omega
  have hent : entP n (ra, rb) i ((b0 : Int) - 1) s3 = some (D, si) := by rw [HLD.out, Nat.sub_self, entR_end]
  have HP4 : Hid (loadP n st = ldC n ra rb b0 D si) := by rw [Hid, HP3.out, hent]; rfl
  have hok := (entP_ok _ _ _ _ _ hent).1
  have HOK := Lib.hid hok
  have L16 : Hid (LdR W wo sb lo p a m q k n si ⟨⟨n, 0, 0, b0, []⟩, newLog⟩ pb (ra : Int) (rb : Int) g D) := by have := LL.out; rw [Nat.sub_self] at this; rw [Hid]; simpa using this
  clear hent hok HLD HP3 LL
  have HSO := Lib.hid (fun (X : World) (h : RowE encEt X g D) => sortStable_any g i D X h (by rw [HDL.out]; exact Nat.le_refl _) (by unfold maxLen; omega) (by rw [HDL.out]; omega) HOK.out.ok)
  rw [HDL.out] at HSO
  go_upto_region 17 with (go_at_call 162; refine (HSO.out _ L16.out.row).mono ?_; rintro e w17 ⟨R, rfl, sr, rr, fr⟩; have SR := Lib.hid sr; have L17 := Lib.hid (L16.out.rowTo fr rr); clear sr rr fr)
  have hRl : R.length = i := by rw [← SR.out.1.length]; exact HDL.out
  obtain ⟨r, d, hacf, hle2, hnil⟩ := acF_all hb0 HOK.out SR.out
  have HAC := Lib.hid hacf
  have HLE2 := Lib.hid hle2
  have HNIL := Lib.hid hnil
  have HRL := Lib.hid hRl
  clear hacf hle2 hnil hRl L16
  go_wp2_with fail
  go_loopg [86] i (fun gh ci wr => ∃ (j : Nat) (aj : ASt), j ≤ i ∧ gh = i - j ∧ ci = .int .i64 (j : Int) ∧ acF aj (R.drop j) = some ⟨n, r, d, b0, toEL D⟩ ∧ LdR W wr sb lo p a m q k n si ⟨aj, newLog⟩ pb (ra : Int) (rb : Int) g R)
  case atStart => exact ⟨0, _, by omega, by omega, rfl, HAC.out, L17.out⟩
  case round =>
   obtain ⟨j, aj, hji, rfl, rfl, hac, hL⟩ := hrel
   obtain ⟨wo, rfl⟩ : ∃ wo : World, wo = wr := ⟨_, rfl⟩
   have AC := Lib.hid hac
   have LL := Lib.hid hL
   clear hac hL L17 HAC
   by_cases hlt : j < i
   case pos =>
    obtain ⟨⟨xs, xr, xd, xv⟩, hx⟩ : ∃ x, R[j]? = some x := ⟨_, List.getElem?_eq_getElem (by rw [HRL.out]; exact hlt)⟩
    obtain ⟨q0, q1, q2, q3⟩ := LL.out.row.five hx
    simp only at q0 q1 q2 q3
    have hdr : R.drop j = ⟨xs, xr, xd, xv⟩ :: R.drop (j + 1) := by
     have hl := (List.getElem?_eq_some_iff.1 hx).1
     rw [List.drop_eq_getElem_cons hl, (List.getElem?_eq_some_iff.1 hx).2]
    have hac := AC.out
    rw [hdr] at hac
    simp only [acF] at hac
    obtain ⟨hE, hac2⟩ : acE aj xr xd xs xv = 0 ∧ acF (acS aj xr xd xs xv) (R.drop (j + 1)) = some ⟨n, r, d, b0, toEL D⟩ := by
     split at hac
     ·rename_i h; exact ⟨h, hac⟩
     ·cases hac
    have AC2 := Lib.hid hac2
    have HEE := Lib.hid hE
    clear hac hac2 hE hdr hx
    have hj9 : i ≤ 9223372036854775807 := by omega
    go_upto_region 20 with fail
    have HBX := box_below wo (.cells #[.int .i64 xs, .int .i64 xr, .int .i64 xd, .string xv] 128)
    have KX := Blk.new wo 128 #[.int .i64 xs, .int .i64 xr, .int .i64 xd, .string xv]
    have L19 := Lib.hid (LL.out.below HBX)
    obtain ⟨xb, hxb⟩ : ∃ xb, wo.heap.size = xb := ⟨_, rfl⟩
    rw [hxb] at KX ⊢
    clear HBX hxb q0 q1 q2 q3
    generalize (wo.alloc (.cells #[.int .i64 xs, .int .i64 xr, .int .i64 xd, .string xv] 128)) = w19 at *
    have x0 := KX.cell (i := 0) (v := .int .i64 xs) rfl
    have x1 := KX.cell (i := 1) (v := .int .i64 xr) rfl
    have x2 := KX.cell (i := 2) (v := .int .i64 xd) rfl
    have x3 := KX.cell (i := 3) (v := .string xv) rfl
    have c0 := L19.out.l.c0
    clear KX LL
    go_wp2_with (first
     | (go_at_call 40; refine (accept_S a m aj _ xr xd xs xv L19.out.l.ns.a).mono ?_; rw [HEE.out]; rintro e w20 ⟨rfl, hs, hf⟩; have hf2 : Fr (nF a m q k) w19 w20 := (hf.mono fun i e => (by rcases e with e | e; exact .inl e; exact .inr (.inl e))); have L20 := Lib.hid (L19.out.nstep (L19.out.l.ns.withA hs hf (fun i e => e)) hf2); clear hs hf hf2)
     | (go_at_call 159; refine (need_yes _).mono ?_; rintro e w21 ⟨rfl, rfl⟩))
    go_roundg (i - (j + 1))
    case measure => omega
    case rel => exact ⟨j + 1, _, by omega, rfl, by go_num, AC2.out, L20.out⟩
   case neg =>
   obtain rfl : j = i := by omega
   have hae : aj = ⟨n, r, d, b0, toEL D⟩ := by
    have h := AC.out
    rw [List.drop_of_length_le (by rw [HRL.out]; exact Nat.le_refl _)] at h
    simp only [acF, Option.some.injEq] at h
    exact h
   subst hae
   clear AC
   have e0 := LL.out.e0
   have e1 := LL.out.e1
   have cn := LL.out.l.c2
   go_upto_if 104 with (go_at_call 157; (with_reducible refine (HGD.out _ ?_).mono ?_); exact cn; rintro e w22 ⟨rfl, hb⟩; have L22 := Lib.hid (LL.out.below hb); have y0 := bcell hb e0; have y1 := bcell hb e1; clear hb)
   go_cut [] (fun wx => LdR W wx sb lo p a m q k n si ⟨⟨n, (ra : Int), (rb : Int), b0, toEL D⟩, newLog⟩ pb (ra : Int) (rb : Int) g R)
   case first =>
    cases gd with
    | true =>
     have hpe : prE ⟨n, r, d, b0, toEL D⟩ (ra : Int) (rb : Int) 0 = 0 := promE_zero.2 ⟨HGE.out, by decide, by decide, HLE2.out⟩
     have hps : prS ⟨n, r, d, b0, toEL D⟩ (ra : Int) (rb : Int) 0 = ⟨n, (ra : Int), (rb : Int), b0, toEL D⟩ := by unfold prS; rw [if_pos hpe]
     have HPE := Lib.hid hpe
     have HPS := Lib.hid hps
     clear hpe hps
     have c0 := L22.out.l.c0
     go_wp2_with (first
      | (go_at_call 38; refine (promise_S a m ⟨n, r, d, b0, toEL D⟩ _ (ra : Int) (rb : Int) 0 L22.out.l.ns.a).mono ?_; rw [HPE.out, HPS.out]; rintro e w23 ⟨v, rfl, hv, hs, hf⟩; obtain ⟨Av, cv, rfl, _⟩ := hv.view; have hf2 : Fr (nF a m q k) w22 w23 := (hf.mono fun i e => .inl e); have L23 := Lib.hid (L22.out.nstep (L22.out.l.ns.withA hs hf (fun i e => .inl e)) hf2); clear hs hf hf2 hv)
      | (go_at_call 159; refine (need_yes _).mono ?_; rintro e w24 ⟨rfl, rfl⟩))
     go_meet
     exact L23.out
    | false =>
     have hz : ra = 0 ∧ rb = 0 := by
      rcases HC3.out with h | h
      ·exact h
      ·cases h
     obtain ⟨rfl, rfl⟩ := hz
     have hR := ents_zero HOK.out SR.out
     have hrd := HNIL.out hR
     have HRD0 := Lib.hid hrd
     clear hR hrd
     go_wp2_with fail
     go_meet
     have h := L22.out
     rw [HRD0.out.1, HRD0.out.2] at h
     exact h
   case rest =>
   have L24 := Lib.hid hcut
   clear hcut LL L22 y0 y1 e0 e1 cn HOK SR HNIL HLE2 HGD HGE HC3
   have c24 := L24.out.l.c3
   cases hn3 : rdN 4096 si with
   | none =>
    go_wp2_with (go_at_call 160; refine (rnum_no lo p 4096 si _ L24.out.l.rd HSI.out (by decide) hn3).mono ?_; rintro e w25 ⟨rfl, hf⟩; have F25 := Lib.hid (show Fr (LF p a m q k) _ _ from hf.mono fun i e => .inl e); clear hf)
    exact ⟨rfl, LoadPost.no (by rw [HP4.out]; unfold ldC; rw [hn3]; rfl) (FW.out _ (L24.out.l.fr.trans F25.out))⟩
   | some x =>
   obtain ⟨c0, s4⟩ := x
   have hc0 : c0 ≤ 4096 := (rdN_dec hn3).2
   have HS4 := Lib.hid (HSI.out.n hn3)
   have HJE := Lib.hid (ljmp_new hc0)
   go_upto_region 26 with (go_at_call 160; refine (rnum_yes lo p 4096 c0 si s4 _ L24.out.l.rd HSI.out (by decide) hn3).mono ?_; rintro e w25 ⟨rfl, hf⟩; have L25 := Lib.hid (L24.out.rstep hf); clear hf)
   have c25 := L25.out.l.c1
   go_upto_region 27 with (first
    | (go_at_call 164; refine (ljmp_any (c0 : Int) L25.out.l.ns.l).mono ?_; rw [HJE.out]; rintro e w26 ⟨rfl, hs, hf⟩; have hf2 : Fr (nF a m q k) w25 w26 := (hf.mono fun i e => (by rcases e with e | e; exact .inr (.inr (.inl e)); exact .inr (.inr (.inr e)))); have L26 := Lib.hid (L25.out.nstep (L25.out.l.ns.withL hs hf) hf2); clear hs hf hf2)
    | (go_at_call 159; refine (need_yes _).mono ?_; rintro e w27 ⟨rfl, rfl⟩))
   clear L25 L24 c24 c25 HSI
   have c26 := L26.out.l.c3
   cases hn4 : rdN 4096 s4 with
   | none =>
    go_wp2_with (go_at_call 160; refine (rnum_no lo p 4096 s4 _ L26.out.l.rd HS4.out (by decide) hn4).mono ?_; rintro e w27 ⟨rfl, hf⟩; have F27 := Lib.hid (show Fr (LF p a m q k) _ _ from hf.mono fun i e => .inl e); clear hf)
    exact ⟨rfl, LoadPost.no (by rw [HP4.out]; unfold ldC; rw [hn3]; show (rdN 4096 s4).bind _ = none; rw [hn4]; rfl) (FW.out _ (L26.out.l.fr.trans F27.out))⟩
   | some x =>
   obtain ⟨M, s5⟩ := x
   have hM : M ≤ 4096 := (rdN_dec hn4).2
   have HS5 := Lib.hid (HS4.out.n hn4)
   have HP5 : Hid (loadP n st = (hasP M ((c0 : Int) - 1) s5).bind fun h => (lpF (ljmpS newLog (c0 : Int)) h.1).map fun l => (⟨⟨n, ra, rb, b0, toEL D⟩, l⟩, h.2)) := by rw [Hid, HP4.out]; unfold ldC; rw [hn3]; show (rdN 4096 s4).bind _ = _; rw [hn4]; rfl
   go_upto_block 4 with (go_at_call 160; refine (rnum_yes lo p 4096 M s4 s5 _ L26.out.l.rd HS4.out (by decide) hn4).mono ?_; rintro e w27 ⟨rfl, hf⟩; have L27 := Lib.hid (L26.out.rstep hf); clear hf)
   clear L26 c26 HS4 HP4 hn3 hn4
   have hK0 := LpK.start hc0
   have HK0 := Lib.hid hK0
   clear hK0 HJE
   go_wp2_with fail
   go_loopg [127, 8] M (fun gh ci cl wr => ∃ (j : Nat) (las : Int) (sj : Rd) (E : VL) (lj : LogSt), j ≤ M ∧ gh = M - j ∧ ci = .int .i64 (j : Int) ∧ cl = .int .i64 las ∧ -1 ≤ las ∧ las ≤ 4095 ∧ Rsmall sj ∧ hasP M ((c0 : Int) - 1) s5 = hasR (M - j) las sj E ∧ lpF (ljmpS newLog (c0 : Int)) E = some lj ∧ LpK lj las ∧
    LdR W wr sb lo p a m q k n sj ⟨⟨n, (ra : Int), (rb : Int), b0, toEL D⟩, lj⟩ pb (ra : Int) (rb : Int) g R)
   case atStart => exact ⟨0, (c0 : Int) - 1, s5, [], _, by omega, by omega, rfl, rfl, by omega, by omega, HS5.out, by rw [Nat.sub_zero, hasR_start], rfl, HK0.out, L27.out⟩
   case round =>
    obtain ⟨j, las, sj, E, lj, hjM, rfl, rfl, rfl, hl3, hl4, hsj, hha, hlp, hk, hL⟩ := hrel
    obtain ⟨wo, rfl⟩ : ∃ wo : World, wo = wr := ⟨_, rfl⟩
    have HSJ := Lib.hid hsj
    have HHA := Lib.hid hha
    have HLP := Lib.hid hlp
    have HKK := Lib.hid hk
    have LL := Lib.hid hL
    clear hsj hha hlp hk hL L27 HK0 HS5
    by_cases hlt : j < M
    case neg =>
     obtain rfl : j = M := by omega
     have hfin : loadP n st = some (⟨⟨n, (ra : Int), (rb : Int), b0, toEL D⟩, lj⟩, sj) := by
      rw [HP5.out, HHA.out, Nat.sub_self, hasR_end]
      show Option.map _ (lpF (ljmpS newLog (c0 : Int)) E) = _
      rw [HLP.out]
      rfl
     have HFIN := Lib.hid hfin
     clear hfin
     go_wp2_with fail
     go_end0
     exact LoadPost.yes HFIN.out LL.out.l.rd LL.out.l.ns (FW.out _ LL.out.l.fr)
    case pos =>
    have HHA1 : Hid (hasP M ((c0 : Int) - 1) s5 = hasR (M - (j + 1) + 1) las sj E) := by rw [Hid, HHA.out, show M - j = M - (j + 1) + 1 by omega]
    have c28 := LL.out.l.c3
    clear HHA
    cases hsl : rdN 4095 sj with
    | none =>
     go_wp2_with (go_at_call 160; refine (rnum_no lo p 4095 sj _ LL.out.l.rd HSJ.out (by decide) hsl).mono ?_; rintro e w29 ⟨rfl, hf⟩; have F29 := Lib.hid (show Fr (LF p a m q k) _ _ from hf.mono fun i e => .inl e); clear hf)
     exact ⟨rfl, LoadPost.no (by rw [HP5.out, HHA1.out, hasR_none hsl]; rfl) (FW.out _ (LL.out.l.fr.trans F29.out))⟩
    | some x =>
    obtain ⟨sl, t1⟩ := x
    have hsl4 : sl ≤ 4095 := (rdN_dec hsl).2
    have HT1 := Lib.hid (HSJ.out.n hsl)
    go_upto_region 30 with (go_at_call 160; refine (rnum_yes lo p 4095 sl sj t1 _ LL.out.l.rd HSJ.out (by decide) hsl).mono ?_; rintro e w29 ⟨rfl, hf⟩; have L29 := Lib.hid (LL.out.rstep hf).drew; clear hf)
    clear LL c28
    have c29 := L29.out.l.c1
    have c2a := L29.out.l.c3
    by_cases h1 : las < (sl : Int)
    case neg =>
     have hd : decide ((sl : Int) > las) = false := decide_eq_false (by omega)
     have HBAD : Hid (loadP n st = none) := by rw [Hid, HP5.out, HHA1.out, hasR_bad hsl h1]; rfl
     refine wp_region_held_drew (S := (fun W => W.cell? ⟨sb, 1, none⟩ = some (.pointer (some ⟨q, 0, none⟩)) ∧ W.cell? ⟨sb + 2, 0, none⟩ = some (.pointer (some ⟨p, 0, none⟩)))) (by kernel_rfl) ?_ (fun hHeld => ?_)
     ·exact ⟨c29, c2a⟩
     try dsimp only at hHeld
     refine hY 0 (some 131) hHeld ?_
     refine hY 1 (some 132) hHeld ?_
     refine hY 2 (some 133) hHeld ?_
     refine hY 3 (some 134) hHeld ?_
     refine hN 4 (some 135) (wanted_t rfl rfl rfl) hHeld ?_
     refine hN 5 (some 136) (wanted_t rfl rfl rfl) hHeld ?_
     refine hN 6 (some 137) (wanted_t rfl rfl rfl) hHeld ?_
     refine hN 7 (some 138) (wanted_t rfl rfl rfl) hHeld ?_
     refine hN 8 (some 139) (wanted_t rfl rfl rfl) hHeld ?_
     refine hN 9 (some 140) (wanted_t rfl rfl rfl) hHeld ?_
     refine hN 10 (some 141) (wanted_t rfl rfl rfl) hHeld ?_
     refine hN 11 (some 142) (wanted_t rfl rfl rfl) hHeld ?_
     refine hY 12 (some 143) hHeld ?_
     refine wpAnyH_ready (rs := [13]) (by kernel_rfl) (by simp) ?_
     refine (AllReadyH.cons rfl (fun K' hK' => ?_) AllReadyH.nil)
     go_simp
     (refine (need_no _).mono ?_; rintro e w30 ⟨rfl, rfl⟩)
     exact ⟨rfl, LoadPost.no HBAD.out (FW.out _ L29.out.l.fr)⟩
    case pos =>
    have hd : decide ((sl : Int) > las) = true := decide_eq_true (by omega)
    obtain ⟨tx, htx⟩ : ∃ tx, sB (rdT t1).1 = tx := ⟨_, rfl⟩
    obtain ⟨t3, ht3⟩ : ∃ t3, (rdT t1).2 = t3 := ⟨_, rfl⟩
    have HT3 : Hid (Rsmall t3) := by rw [Hid, ← ht3]; exact HT1.out.t
    have HTX := Lib.hid (fun (X : World) (h : RdAt X lo p t1) => rtext_any lo p t1 X h HT1.out)
    rw [htx, ht3] at HTX
    have hsz : tx.size ≤ 65536 := by rw [← htx]; exact rdT_size _
    obtain ⟨hpe, hpk⟩ := HKK.out.step (k := (sl : Int)) (v := tx) h1 (by omega) (by omega) hsz
    have HPE := Lib.hid hpe
    have HPK := Lib.hid hpk
    have HLP2 := Lib.hid (lpF_add HLP.out hpe)
    have HHA2 : Hid (hasP M ((c0 : Int) - 1) s5 = hasR (M - (j + 1)) (sl : Int) t3 (E ++ [((sl : Int), tx)])) := by rw [Hid, HHA1.out, hasR_step hsl h1, htx, ht3]
    clear hpe hpk htx ht3 hsl HHA1 HLP
    refine wp_region_held_drew (S := (fun W => W.cell? ⟨sb, 1, none⟩ = some (.pointer (some ⟨q, 0, none⟩)) ∧ W.cell? ⟨sb + 2, 0, none⟩ = some (.pointer (some ⟨p, 0, none⟩)))) (by kernel_rfl) ?_ (fun hHeld => ?_)
    ·exact ⟨c29, c2a⟩
    try dsimp only at hHeld
    refine hY 0 (some 131) hHeld ?_
    refine hY 1 (some 132) hHeld ?_
    refine hY 2 (some 133) hHeld ?_
    refine hY 3 (some 134) hHeld ?_
    refine hY 4 (some 135) hHeld ?_
    refine hY 5 (some 136) hHeld ?_
    refine hY 6 (some 137) hHeld ?_
    refine hY 7 (some 138) hHeld ?_
    refine hY 8 (some 139) hHeld ?_
    refine wpAnyH_ready (rs := [9]) (by kernel_rfl) (by simp) ?_
    refine (AllReadyH.cons rfl (fun K' hK' => ?_) AllReadyH.nil)
    go_simp
    (refine (HTX.out _ L29.out.l.rd).mono ?_; rintro e w31 ⟨rfl, hf⟩; have L31 := Lib.hid (L29.out.rstep hf); clear hf)
    go_wp2_with fail
    refine hK'.out _ _ ?_ (fun hHeld => ?_)
    ·first | exact hHeld | exact ⟨L32.out.l.c1, L32.out.l.c3⟩ | exact ⟨L31.out.l.c1, L31.out.l.c3⟩
    clear hK' K'
    try dsimp only at hHeld
    try simp only [Act.put, List.setIfInBounds_toArray, List.set_cons_zero, List.set_cons_succ]
    refine wpAnyH_ready (rs := [10]) (by kernel_rfl) (by simp) ?_
    refine (AllReadyH.cons rfl (fun K' hK' => ?_) AllReadyH.nil)
    go_simp
    (refine (lput_any (sl : Int) tx L31.out.l.ns.l).mono ?_; rw [HPE.out]; rintro e w32 ⟨rfl, hs, hf⟩; have hf2 : Fr (nF a m q k) w31 w32 := (hf.mono fun i e => (by rcases e with e | e; exact .inr (.inr (.inl e)); exact .inr (.inr (.inr e)))); have L32 := Lib.hid (L31.out.nstep (L31.out.l.ns.withL hs hf) hf2); clear hs hf hf2)
    go_wp2_with fail
    refine hK'.out _ _ ?_ (fun hHeld => ?_)
    ·first | exact hHeld | exact ⟨L32.out.l.c1, L32.out.l.c3⟩ | exact ⟨L31.out.l.c1, L31.out.l.c3⟩
    clear hK' K'
    try dsimp only at hHeld
    try simp only [Act.put, List.setIfInBounds_toArray, List.set_cons_zero, List.set_cons_succ]
    refine hY 11 (some 142) hHeld ?_
    refine hY 12 (some 143) hHeld ?_
    refine wpAnyH_ready (rs := [13]) (by kernel_rfl) (by simp) ?_
    refine (AllReadyH.cons rfl (fun K' hK' => ?_) AllReadyH.nil)
    go_simp
    (refine (need_yes _).mono ?_; rintro e w33 ⟨rfl, rfl⟩)
    go_wp2_with fail
    refine hK'.out _ _ ?_ (fun hHeld => ?_)
    ·first | exact hHeld | exact ⟨L32.out.l.c1, L32.out.l.c3⟩ | exact ⟨L31.out.l.c1, L31.out.l.c3⟩
    clear hK' K'
    try dsimp only at hHeld
    try simp only [Act.put, List.setIfInBounds_toArray, List.set_cons_zero, List.set_cons_succ]
    refine wpAnyH_done (by kernel_rfl) ?_ _
    (go_wp2_with fail; go_roundg (M - (j + 1)); (case measure => omega); (case rel => exact ⟨j + 1, (sl : Int), t3, _, _, by omega, rfl, by go_num, rfl, by omega, by omega, HT3.out, HHA2.out, HLP2.out, HPK.out, L32.out⟩))
end Go.Proofs.YtlfikhblmbidmaaGreatDoor