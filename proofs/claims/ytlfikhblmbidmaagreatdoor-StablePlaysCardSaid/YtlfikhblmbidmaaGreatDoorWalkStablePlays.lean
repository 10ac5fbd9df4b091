import Derived.Test.YtlfikhblmbidmaaGreatDoorPlyD
import Derived.Test.YtlfikhblmbidmaaGreatDoorStpQ
import Derived.OpenShut
import Derived.Deep.DeepCutAuto
import Derived.Deep.CutBlock
import Derived.Deep.LoopGhost
import Derived.Deep.RegionHeld3
set_option linter.all false
namespace Go.Proofs.YtlfikhblmbidmaaGreatDoor.stablePlays
open Go.RowKit Go.Shelf
theorem sumQ_mem {L : List Sq} {s : Sq} (h : s ∈ L) : s.2.2.2.2.size ≤ sumQ L := by
 unfold sumQ
 induction L with
 | nil => cases h
 | cons x r ih =>
  simp only [List.map_cons, List.sum_cons]
  rcases List.mem_cons.1 h with rfl | h
  ·omega
  ·have := ih h; omega
structure PI (n : Int) (w X : World) (dp dq rp a m l k ra rq bd br : Nat) (ds : DSt) (t : NSt) (i : Nat) : Prop where
 p : ∃ bs sc, P2 n w X dp dq rp a m l k ra rq bd br bs sc (.slice none 0 0) [] (.slice none 0 0) [] ds t t
 d : DI n ds
 v : Vi n t (3500000 + i * 150000)
 b : ds.b.length ≤ i * 65544
set_option maxRecDepth 100000 in
def fr (f : Nat → Value) (sl : Value) (len bd br : Nat) (n : Int) (i a l ra rq : Nat) (c16 c17 : Value) : Act := ⟨#[f 0, f 1, f 2, f 3, f 4, .int .i64 n, .pointer (some ⟨bd, 0, none⟩), .pointer (some ⟨br, 0, none⟩), .pointer (some ⟨a, 0, none⟩), .pointer (some ⟨l, 0, none⟩), f 10, .pointer (some ⟨ra, 0, none⟩), .pointer (some ⟨rq, 0, none⟩), f 13, .func (.func 37) #[] #[.pointer (some ⟨bd, 0, none⟩), .pointer (some ⟨br, 0, none⟩)], f 15, c16, c17, f 18, f 19, f 20, f 21, f 22, f 23, f 24, f 25, f 26, f 27, f 28, f 29, f 30, f 31, f 32, f 33, f 34, f 35, f 36, f 37, f 38, f 39, f 40, f 41, f 42, f 43, f 44, f 45, f 46, f 47, f 48, f 49, f 50, f 51, f 52, f 53, f 54, f 55, f 56, f 57, f 58, f 59, f 60, f 61, f 62, f 63, f 64, f 65, f 66, f 67, f 68, f 69, f 70, f 71, f 72, sl, .int .i64 (len : Int), .int .i64 (i : Int), f 76, f 77, f 78, f 79, f 80, f 81, f 82, f 83, f 84, f 85, f 86, f 87, f 88, f 89, f 90, f 91, f 92, f 93, f 94, f 95, f 96, f 97, f 98, f 99, f 100, f 101, f 102, f 103, f 104, f 105, f 106, f 107, f 108, f 109, f 110, f 111, f 112, f 113, f 114, f 115, f 116, f 117, f 118, f 119, f 120, f 121, f 122, f 123, f 124, f 125, f 126, f 127, f 128, f 129, f 130, f 131, f 132, f 133, f 134, f 135, f 136, f 137, f 138, f 139, f 140, f 141, f 142, f 143, f 144, f 145, f 146, f 147, f 148, f 149, f 150, f 151, f 152, f 153, f 154, f 155, f 156, f 157, f 158, f 159, f 160, f 161, f 162, f 163, f 164, f 165, f 166, f 167, f 168, f 169, f 170, f 171, f 172, f 173, f 174, f 175, f 176, f 177, f 178, f 179, f 180, f 181, f 182, f 183, f 184, f 185, f 186, f 187, f 188, f 189, f 190, f 191, f 192, f 193, f 194, f 195, f 196, f 197, f 198, f 199, f 200, f 201, f 202, f 203, f 204, f 205, f 206, f 207, f 208, f 209, f 210, f 211, f 212, f 213, f 214, f 215, f 216, f 217, f 218, f 219, f 220, f 221, f 222, f 223, f 224, f 225, f 226, f 227, f 228, f 229, f 230, f 231, f 232, f 233, f 234, f 235, f 236, f 237, f 238, f 239, f 240, f 241, f 242, f 243, f 244, f 245, f 246, f 247, f 248, f 249, f 250, f 251, f 252, f 253, f 254, f 255, f 256, f 257, f 258, f 259, f 260, f 261, f 262, f 263, f 264, f 265, f 266, f 267, f 268, f 269, f 270, f 271, f 272, f 273, f 274, f 275, f 276, f 277, f 278, f 279, f 280, f 281, f 282, f 283, f 284, f 285, f 286, f 287, f 288, f 289, f 290, f 291, f 292, f 293, f 294, f 295, f 296, f 297, f 298, f 299, f 300, f 301, f 302, f 303, f 304, f 305, f 306, f 307, f 308, f 309, f 310, f 311, f 312, f 313, f 314, f 315, f 316, f 317, f 318, f 319, f 320, f 321, f 322, f 323, f 324, f 325, f 326, f 327, f 328, f 329, f 330, f 331, f 332, f 333, f 334, f 335, f 336, f 337, f 338, f 339, f 340, f 341, f 342, f 343, f 344, f 345, f 346, f 347, f 348, f 349, f 350, f 351, f 352, f 353, f 354, f 355, f 356, f 357, f 358, f 359, f 360, f 361, f 362], []⟩
set_option maxRecDepth 100000 in
def PLoop (L : List Sq) (n : Int) (w : World) (dp dq rp bd br : Nat) (sl : Value) (g : Nat) (act : Act) (X : World) : Prop :=
 ∃ (f : Nat → Value) (i a m l k ra rq : Nat) (ds : DSt) (t : NSt), i ≤ L.length ∧ g = L.length - i ∧ PI n w X dp dq rp a m l k ra rq bd br ds t i ∧ act = fr f sl L.length bd br n i a l ra rq (f 16) (f 17)
set_option maxRecDepth 100000 in
theorem PLoop.of {L : List Sq} {n : Int} {w X : World} {dp dq rp bd br : Nat} {sl : Value} {act : Act} (i a m l k ra rq : Nat) (ds : DSt) (t : NSt) (hi : i ≤ L.length) (hI : PI n w X dp dq rp a m l k ra rq bd br ds t i)
  (h : act = fr (fun d => act.tmps.getD d undef) sl L.length bd br n i a l ra rq (act.tmps.getD 16 undef) (act.tmps.getD 17 undef)) : PLoop L n w dp dq rp bd br sl (L.length - i) act X := ⟨_, i, a, m, l, k, ra, rq, ds, t, hi, rfl, hI, h⟩
theorem cells5 {n : Int} {w X : World} {dp dq rp a m l k ra rq bd br bs : Nat} {x0 x1 x2 x3 : Int} {x4 : ByteArray} {pv qv : Value} {pb qb : List UInt8} {ds : DSt} {t u : NSt} (h : P2 n w X dp dq rp a m l k ra rq bd br bs #[.int .i64 x0, .int .i64 x1, .int .i64 x2, .int .i64 x3, .string x4] pv pb qv qb ds t u) :
  X.cell? ⟨bs, 0, none⟩ = some (.int .i64 x0) ∧ X.cell? ⟨bs, 1, none⟩ = some (.int .i64 x1) ∧ X.cell? ⟨bs, 2, none⟩ = some (.int .i64 x2) ∧ X.cell? ⟨bs, 3, none⟩ = some (.int .i64 x3) ∧ X.cell? ⟨bs, 4, none⟩ = some (.string x4) := by
 have b := h.box (by simp)
 exact ⟨b.cell (i := 0) rfl, b.cell (i := 1) rfl, b.cell (i := 2) rfl, b.cell (i := 3) rfl, b.cell (i := 4) rfl⟩
set_option maxRecDepth 100000 in
theorem PI.same {n : Int} {w X : World} {dp dq rp a m l k ra rq bd br bs i : Nat} {sc : Array Value} {pv qv : Value} {pb qb : List UInt8} {ds : DSt} {t : NSt} (h : P2 n w X dp dq rp a m l k ra rq bd br bs sc pv pb qv qb ds t t) (hd : DI n ds) (hv : Vi n t (3500000 + (i + 1) * 150000)) (hb : ds.b.length ≤ i * 65544) : PI n w X dp dq rp a m l k ra rq bd br ds t (i + 1) :=
 ⟨⟨_, _, h.p3.p2⟩, hd, hv, Nat.le_trans hb (Nat.mul_le_mul_right _ (Nat.le_succ i))⟩
set_option maxRecDepth 100000 in
theorem PI.wr {n : Int} {w X : World} {dp dq rp a m l k ra rq bd br bs i : Nat} {sc : Array Value} {pv qv : Value} {pb qb b : List UInt8} {ds : DSt} {t : NSt} {E : Int} (h : P2 n w X dp dq rp a m l k ra rq bd br bs sc pv pb qv qb (if E = 0 then wrD ds b else ds) t t) (hd : DI n ds) (hv : Vi n t (3500000 + (i + 1) * 150000)) (hb : ds.b.length ≤ i * 65544) (hl : b.length ≤ 65536) (hi : i < 50) :
  PI n w X dp dq rp a m l k ra rq bd br (if E = 0 then wrD ds b else ds) t (i + 1) := by
 refine ⟨⟨_, _, h.p3.p2⟩, ?_, hv, ?_⟩
 ·split
  ·exact hd.wr (by omega)
  ·exact hd
 ·split
  ·show (ds.b ++ frameB b).length ≤ _
   rw [List.length_append, frameB_length, Nat.add_mul]
   omega
  ·exact Nat.le_trans hb (Nat.mul_le_mul_right _ (Nat.le_succ i))
set_option maxRecDepth 100000 in
theorem PI.wr1 {n : Int} {w X : World} {dp dq rp a m l k ra rq bd br bs i : Nat} {sc : Array Value} {pv qv : Value} {pb qb b : List UInt8} {ds : DSt} {t : NSt} (h : P2 n w X dp dq rp a m l k ra rq bd br bs sc pv pb qv qb (wrD ds b) t t) (hd : DI n ds) (hv : Vi n t (3500000 + (i + 1) * 150000)) (hb : ds.b.length ≤ i * 65544) (hl : b.length ≤ 65536) (hi : i < 50) :
  PI n w X dp dq rp a m l k ra rq bd br (wrD ds b) t (i + 1) := by
 have := PI.wr (E := 0) (b := b) (ds := ds) (by rw [if_pos rfl]; exact h) hd hv hb hl hi
 rwa [if_pos rfl] at this
theorem PI.at_ {n : Int} {w X : World} {dp dq rp a m l k ra rq bd br bs i : Nat} {sc : Array Value} {ds : DSt} {t : NSt} (h : P3 w X dp dq rp a m l k ra rq bd br bs sc ds ds t t) (hd : DI n ds) (hv : Vi n t (3500000 + (i + 1) * 150000)) (hb : ds.b.length ≤ (i + 1) * 65544) : PI n w X dp dq rp a m l k ra rq bd br ds t (i + 1) :=
 ⟨⟨_, _, h.p2⟩, hd, hv, hb⟩
theorem outB_len (ok : Bool) (b : List UInt8) : (outB ok b).length ≤ 65536 := by
 unfold outB
 split
 ·omega
 ·simp
set_option maxRecDepth 100000 in
def PCut (L : List Sq) (n : Int) (w : World) (dp dq rp bd br : Nat) (sl : Value) (i : Nat) (act : Act) (X : World) : Prop :=
 ∃ (f : Nat → Value) (a m l k ra rq : Nat) (ds : DSt) (t : NSt), PI n w X dp dq rp a m l k ra rq bd br ds t (i + 1) ∧ act = fr f sl L.length bd br n i a l ra rq (f 16) (.bool true)
set_option maxRecDepth 100000 in
theorem PCut.of {L : List Sq} {n : Int} {w X : World} {dp dq rp bd br : Nat} {sl : Value} {i : Nat} {act : Act} (a m l k ra rq : Nat) (ds : DSt) (t : NSt) (hI : PI n w X dp dq rp a m l k ra rq bd br ds t (i + 1))
  (h : act = fr (fun d => act.tmps.getD d undef) sl L.length bd br n i a l ra rq (act.tmps.getD 16 undef) (.bool true)) : PCut L n w dp dq rp bd br sl i act X := ⟨_, a, m, l, k, ra, rq, ds, t, hI, h⟩
set_option maxRecDepth 100000 in
set_option maxHeartbeats 16000000 in
theorem walk (a0 : Int) (v1 : Value) (L : List Sq) (w : World) (w0 : (Lit.int .u8 a0).wf = true) (w1 : StepsQ w v1 L) (ht : TabP w) :
  Calls Tryz.prog 7 #[.int .u8 a0, v1] w fun e w' => e = .returned (.bool true) ∧ Below w.heap.size w w' := by
 have HT := Lib.hid (show FoursAt w from ht)
 have HFA : Hid (∀ X : World, Below w.heap.size w X → FoursAt X) := fun X hb => HT.out.below hb
 have HFEW := Lib.hid (few_any v1 L w w1)
 have hz0 : 0 ≤ a0 ∧ a0 ≤ 255 := by simp [Lit.wf, IntKind.min, IntKind.max, IntKind.signed, IntKind.bits] at w0; omega
 have H1 := Lib.hid w1
 obtain ⟨A1, cap1, rfl, hle1, hm1, hin, _⟩ := id w1
 have hm1' : cap1 ≤ 9223372036854775807 := by unfold maxLen at hm1; omega
 have HIN := Lib.hid hin
 clear w0 w1 ht hin
 cases hfew : fewB L with
 | false =>
  rw [hfew] at HFEW
  go_enter Tryz.func7, Tryz.ntmps7
  go_wp2_with (first
   | (go_at_call 36; refine HFEW.out.mono ?_; rintro e X1 ⟨rfl, hb⟩; have B1 := Lib.hid hb; clear hb)
   | (go_at_call 18; refine (works_any _ (HFA.out _ B1.out)).mono ?_; rintro e X2 ⟨rfl, hb⟩; have B2 := Lib.hid (bchain B1.out hb); clear hb))
  go_returns
  exact ⟨rfl, B2.out⟩
 | true =>
 rw [hfew] at HFEW
 have hL : L.length ≤ 50 ∧ sumQ L ≤ 150000 := by simpa [fewB] using hfew
 have HL := Lib.hid hL
 have HSUM : Hid (∀ s ∈ L, s.2.2.2.2.size ≤ 150000) := fun s hs => Nat.le_trans (sumQ_mem hs) hL.2
 clear hL
 obtain ⟨n, hn⟩ : ∃ n : Int, n = 1 + a0 % 7 := ⟨_, rfl⟩
 have HN : Hid (okN n) := by subst hn; show okN _; unfold okN; omega
 clear hfew
 go_enter Tryz.func7, Tryz.ntmps7
 go_upto_region 5 with (first
  | (go_at_call 36; refine HFEW.out.mono ?_; rintro e X0 ⟨rfl, hb⟩; have B0 := Lib.hid hb; clear hb)
  | (go_at_call 14; refine (dnew_any _).mono ?_; rintro e X1 ⟨dp, dq, rfl, hd, hp, hq, hb⟩; have D1 := Lib.hid hd; have B1 := Lib.hid (bchain B0.out hb); have HP := Lib.hid (Nat.le_trans B0.out.size hp); have HQ := Lib.hid (Nat.le_trans B0.out.size hq); clear hd hp hq hb)
  | (go_at_call 26; refine (rdnew_any _).mono ?_; rintro e X2 ⟨rp, rfl, hr, hp, hb⟩; have T2 := Lib.hid (show TwoD w X2 dp dq (.slice none 0 0) (.slice none 0 0) rp (.slice none 0 0) (.slice none 0 0) newD newD from ⟨D1.out.below hb, hr, bchain B1.out hb, fun j e => (by rcases e with rfl | rfl | e | e; exact HP.out; exact HQ.out; cases e; cases e), fun j e => (by rcases e with rfl | e | e; exact Nat.le_trans B1.out.size hp; cases e; cases e), fun j e e2 => (by have h1 := D1.out.lt e; rcases e2 with rfl | e2 | e2; omega; cases e2; cases e2)⟩); clear hr hp hb))
 rw [← hn]
 clear hn hz0
 have hb3 : Below X2.heap.size X2 ((X2.alloc (.cells #[.pointer (some ⟨dp, 0, none⟩)] 33)).alloc (.cells #[.pointer (some ⟨rp, 0, none⟩)] 51)) := ((Below.refl _ X2).alloc (Nat.le_refl _) _).alloc (by simp) _
 have KD := Lib.hid ((Blk.new X2 33 #[.pointer (some ⟨dp, 0, none⟩)]).alloc (.cells #[.pointer (some ⟨rp, 0, none⟩)] 51))
 have KR := Lib.hid (blk_new1 X2 (.cells #[.pointer (some ⟨dp, 0, none⟩)] 33) 51 #[.pointer (some ⟨rp, 0, none⟩)])
 have T3 := Lib.hid (T2.out.below hb3)
 have hro : recO n newD = some (newN n) := by simp [recO, newD, allF_none nextF_nil, recR]
 have hmf : ∀ (fn : Fn) (first cap : Array Value) (w : World), (Instr.makeFunc fn first cap).run Tryz.prog w = .ok (.func fn first cap) w := fun _ _ _ _ => rfl
 clear hb3 T2 D1
 generalize ((X2.alloc (.cells #[.pointer (some ⟨dp, 0, none⟩)] 33)).alloc (.cells #[.pointer (some ⟨rp, 0, none⟩)] 51)) = X3 at *
 obtain ⟨br, hbr⟩ : ∃ b, b = X2.heap.size + 1 := ⟨_, rfl⟩
 rw [← hbr] at KR ⊢
 obtain ⟨bd, hbd⟩ : ∃ b, b = X2.heap.size := ⟨_, rfl⟩
 rw [← hbd] at KD ⊢
 clear hbr hbd
 have D0 := Lib.hid (DI.new n)
 have V0 : Hid (Vi n (newN n) 3500000) := ⟨rfl, fun x hx => (by cases hx), by simp [sz, szG, newN, newS, newLog]⟩
 have L0 : Hid (newD.b.length ≤ 0) := Nat.le_refl _
 have hh0 : Hid (newD.has = true → newD.st.length ≤ 100000000) := fun h => by cases h
 have HRO := Lib.hid hro
 clear hro
 generalize newD = ds0 at *
 generalize newN n = t0 at *
 have HR1 : Hid (Calls Tryz.prog 15 #[.int .i64 n, .pointer (some ⟨dp, 0, none⟩)] X3 (RcP X3 (some t0))) := by
  have := recover_all n HN.out T3.out.d D0.out.1 (HFA.out _ T3.out.bel) hh0.out
  rw [HRO.out] at this
  exact this
 have c6 := KD.out.cell (i := 0) (v := .pointer (some ⟨dp, 0, none⟩)) rfl
 go_upto_region 10 with (first
  | (go_at_call 15; refine HR1.out.mono ?_; intro e X4 hr; obtain ⟨hb, a, m, l, k, rfl, hns, hlo⟩ := hr; have T4 := Lib.hid (T3.out.below hb); have kr4 := KR.out.of_block (hb.block _ KR.out.lt); have KD4 := Lib.hid (KD.out.of_block (hb.block _ KD.out.lt)); have c7 := kr4.cell (i := 0) (v := .pointer (some ⟨rp, 0, none⟩)) rfl; have KR4 := Lib.hid kr4; have N4 := Lib.hid hns; have NLO := Lib.hid (fun i e => Nat.le_trans T3.out.bel.size (hlo i e)); clear hb hns hlo kr4)
  | (go_at_call 32; refine (rrecover_any n HN.out T4.out.r D0.out.1).mono ?_; intro e X5 hr; rw [HRO.out] at hr; obtain ⟨hb, ra, rav, rq, rlv, rl, rfl, hrn⟩ := hr; have P5 := Lib.hid (show P2 n w X5 dp dq rp a m l k ra rq bd br 0 #[] (.slice none 0 0) [] (.slice none 0 0) [] ds0 t0 t0 from ⟨_, _, _, _, _, _, _, ⟨T4.out.below hb, N4.out.below hb, hrn.lower_ T4.out.bel.size, NLO.out, KD4.out.of_block (hb.block _ KD4.out.lt), KR4.out.of_block (hb.block _ KR4.out.lt), .inl rfl⟩, LRow.nil _, LRow.nil _, fun i e => by cases e⟩); clear hb hrn))
 clear T3 T4 KD KR KD4 KR4 N4 NLO B0 B1 HP HQ c6 c7
 have I5 := Lib.hid (show PI n w X5 dp dq rp a m l k ra rq bd br ds0 t0 0 from ⟨⟨_, _, P5.out⟩, D0.out, V0.out, L0.out⟩)
 clear P5
 go_wp2_with fail
 refine wp_loop_ghost_k (PLoop L n w dp dq rp bd br (.slice A1 L.length cap1)) L.length (PLoop.of 0 a m l k ra rq ds0 t0 (Nat.zero_le _) I5.out (by kernel_rfl)) ?_
 intro gk act wr hinv J K hJ hK
 case _ =>
  obtain ⟨f, i, a, m, l, k, ra, rq, ds, t, hi, rfl, hI, rfl⟩ := hinv
  unfold fr
  clear I5
  obtain ⟨⟨bs0, sc0, hP⟩, hD, hV, hB⟩ := hI
  have PP := Lib.hid hP
  have D := Lib.hid hD
  have V := Lib.hid hV
  have BL := Lib.hid hB
  clear hP hD hV hB
  by_cases hlt : i < L.length
  ·obtain ⟨s, hs⟩ : ∃ s, L[i]? = some s := ⟨_, List.getElem?_eq_getElem hlt⟩
   obtain ⟨x0, x1, x2, x3, x4⟩ := s
   obtain ⟨A1', cap1', hA, _, _, _, hcell⟩ := H1.out
   simp only [Value.slice.injEq] at hA
   obtain ⟨rfl, _, rfl⟩ := hA
   obtain ⟨b, off, rfl, hbl, hcell⟩ := hcell (by omega)
   have hbw := PP.out.bel
   have q0 : wr.cell? ⟨b, off + i * 5, none⟩ = some (.int .i64 x0) := bcell hbw (hcell i _ hs 0 _ rfl)
   have q1 : wr.cell? ⟨b, off + i * 5 + 1, none⟩ = some (.int .i64 x1) := bcell hbw (hcell i _ hs 1 _ rfl)
   have q2 : wr.cell? ⟨b, off + i * 5 + 2, none⟩ = some (.int .i64 x2) := bcell hbw (hcell i _ hs 2 _ rfl)
   have q3 : wr.cell? ⟨b, off + i * 5 + 3, none⟩ = some (.int .i64 x3) := bcell hbw (hcell i _ hs 3 _ rfl)
   have q4 : wr.cell? ⟨b, off + i * 5 + 4, none⟩ = some (.string x4) := bcell hbw (hcell i _ hs 4 _ rfl)
   have hok := HIN.out _ (List.mem_of_getElem? hs)
   have hsum := HSUM.out _ (List.mem_of_getElem? hs)
   have HOK := Lib.hid hok
   have HX4 : Hid (x4.size ≤ 150000) := hsum
   have Q := Lib.hid (PP.out.next #[.int .i64 x0, .int .i64 x1, .int .i64 x2, .int .i64 x3, .string x4])
   clear hcell hs hok hbw hsum PP
   have hi50 : i < 50 := by have := HL.out.1; omega
   have HI50 := Lib.hid hi50
   have hgz : Hid (L.length - (i + 1) < L.length - i) := by show _ < _; omega
   clear hi50
   go_upto_block 2 with fail
   refine wp_cut (PCut L n w dp dq rp bd br (.slice (some ⟨b, off, none⟩) L.length cap1) i) ?_ ?_
   case refine_1 =>
    clear Q V BL D HOK HX4 q0 q1 q2 q3 q4
    intro act wc hc
    obtain ⟨f2, a, m, l, k, ra, rq, ds, t, hI, rfl⟩ := hc
    unfold fr
    obtain ⟨⟨bs1, sc1, hP⟩, hD, hV, hB⟩ := hI
    have c0 := hP.cd
    have c1 := hP.cr
    have PD := Lib.hid (hP.below (Below.refl _ wc).drew)
    have D := Lib.hid hD
    have V := Lib.hid hV
    have BL := Lib.hid hB
    clear hP hD hV hB
    go_upto_region 56 with fail
    refine wp_region_held_drew (S := (fun Y => Y.cell? ⟨bd, 0, none⟩ = some (.pointer (some ⟨dp, 0, none⟩)) ∧ Y.cell? ⟨br, 0, none⟩ = some (.pointer (some ⟨rp, 0, none⟩)))) (by kernel_rfl) ?_ (fun hHeld => ?_)
    ·exact ⟨c0, c1⟩
    try dsimp only at hHeld
    refine hY 0 (some 337) hHeld ?_
    refine hY 1 (some 338) hHeld ?_
    refine hY 2 (some 339) hHeld ?_
    refine hY 3 (some 340) hHeld ?_
    refine hY 4 (some 341) hHeld ?_
    refine hY 5 (some 342) hHeld ?_
    refine hY 6 (some 343) hHeld ?_
    refine wpAnyH_ready (rs := [7]) (by kernel_rfl) (by simp) ?_
    refine (AllReadyH.cons rfl (fun K' hK' => ?_) AllReadyH.nil)
    go_simp
    (refine PD.out.alike.mono ?_; rintro e Y1 ⟨rfl, h1⟩; have x0 := h1.cd; have x1 := h1.cr; have P1 := Lib.hid h1; clear h1)
    go_wp2_with fail
    refine hK'.out _ _ ?_ (fun hHeld => ?_)
    ·first | exact hHeld | exact ⟨x0, x1⟩ | go_keep
    clear hK' K'
    try dsimp only at hHeld
    try simp only [Act.put, List.setIfInBounds_toArray, List.set_cons_zero, List.set_cons_succ]
    refine hY 8 (some 345) hHeld ?_
    refine hY 9 (some 346) hHeld ?_
    refine hY 10 (some 347) hHeld ?_
    refine hY 11 (some 348) hHeld ?_
    refine hY 13 (some 350) hHeld ?_
    refine wpAnyH_ready (rs := [12]) (by kernel_rfl) (by simp) ?_
    refine (AllReadyH.cons rfl (fun K' hK' => ?_) AllReadyH.nil)
    go_simp
    (refine P1.out.dlen.mono ?_; rintro e Y2 ⟨rfl, rfl⟩)
    go_wp2_with fail
    refine hK'.out _ _ ?_ (fun hHeld => ?_)
    ·first | exact hHeld | exact ⟨x0, x1⟩ | go_keep
    clear hK' K'
    try dsimp only at hHeld
    try simp only [Act.put, List.setIfInBounds_toArray, List.set_cons_zero, List.set_cons_succ]
    refine wpAnyH_ready (rs := [14]) (by kernel_rfl) (by simp) ?_
    refine (AllReadyH.cons rfl (fun K' hK' => ?_) AllReadyH.nil)
    go_simp
    (refine P1.out.rlen.mono ?_; rintro e Y2 ⟨rfl, rfl⟩)
    go_wp2_with fail
    refine hK'.out _ _ ?_ (fun hHeld => ?_)
    ·first | exact hHeld | exact ⟨x0, x1⟩ | go_keep
    clear hK' K'
    try dsimp only at hHeld
    try simp only [Act.put, List.setIfInBounds_toArray, List.set_cons_zero, List.set_cons_succ]
    refine hY 15 (some 352) hHeld ?_
    refine hY 16 (some 353) hHeld ?_
    refine hY 17 (some 354) hHeld ?_
    refine hY 18 (some 355) hHeld ?_
    refine hY 20 (some 357) hHeld ?_
    refine wpAnyH_ready (rs := [19]) (by kernel_rfl) (by simp) ?_
    refine (AllReadyH.cons rfl (fun K' hK' => ?_) AllReadyH.nil)
    go_simp
    (refine P1.out.dsafe.mono ?_; rintro e Y2 ⟨rfl, rfl⟩)
    go_wp2_with fail
    refine hK'.out _ _ ?_ (fun hHeld => ?_)
    ·first | exact hHeld | exact ⟨x0, x1⟩ | go_keep
    clear hK' K'
    try dsimp only at hHeld
    try simp only [Act.put, List.setIfInBounds_toArray, List.set_cons_zero, List.set_cons_succ]
    refine wpAnyH_ready (rs := [21]) (by kernel_rfl) (by simp) ?_
    refine (AllReadyH.cons rfl (fun K' hK' => ?_) AllReadyH.nil)
    go_simp
    (refine P1.out.rsafe.mono ?_; rintro e Y2 ⟨rfl, rfl⟩)
    go_wp2_with fail
    refine hK'.out _ _ ?_ (fun hHeld => ?_)
    ·first | exact hHeld | exact ⟨x0, x1⟩ | go_keep
    clear hK' K'
    try dsimp only at hHeld
    try simp only [Act.put, List.setIfInBounds_toArray, List.set_cons_zero, List.set_cons_succ]
    refine hY 22 (some 359) hHeld ?_
    refine hY 23 (some 360) hHeld ?_
    refine wpAnyH_done (by kernel_rfl) ?_ _
    have hi50 := HI50.out
    have hw64 : wrap64 ((i : Int) + 1) = ((i + 1 : Nat) : Int) := by unfold wrap64; omega
    go_wp2_with fail
    refine Handed.intro (L.length - (i + 1)) hgz ?_
    exact hJ _ _ _ (PLoop.of (i + 1) a m l k ra rq ds t (by omega) ⟨⟨_, _, P1.out.p3.p2⟩, D.out, V.out, BL.out⟩ (by kernel_rfl))
   case refine_2 =>
    intro JC KC hJC hKC
    have HJC := Lib.hid hJC
    clear q0 q1 q2 q3 q4
    obtain ⟨bx, hbx⟩ : ∃ b, b = wr.heap.size := ⟨_, rfl⟩
    rw [← hbx] at Q ⊢
    generalize (wr.alloc (.cells #[.int .i64 x0, .int .i64 x1, .int .i64 x2, .int .i64 x3, .string x4] 66)) = wq at *
    clear hbx
    obtain ⟨z0, z1, z2, z3, z4⟩ := cells5 Q.out
    have HBF : Hid (∀ (ok : Bool) (c : List UInt8), ds.b.length + 8 + (outB ok c).length ≤ 16777216) := fun ok c => by have := outB_len ok c; have := BL.out; have := HI50.out; omega
    have HAP : Hid (∀ (ok : Bool) (c : List UInt8), (ds.b ++ frameB (outB ok c)).length ≤ (i + 1) * 65544) := fun ok c => by have := outB_len ok c; have := BL.out; rw [List.length_append, frameB_length, Nat.add_mul]; omega
    have HV1 : Hid (∀ {t' : NSt}, Vi n t' (3500000 + i * 150000 + 150000) → Vi n t' (3500000 + (i + 1) * 150000)) := fun h => h.mono (by omega)
    by_cases h0 : x0 = 0
    ·subst h0
     obtain ⟨E, hE⟩ : ∃ E, prE t.a x2 x3 0 = E := ⟨_, rfl⟩
     have HE := Lib.hid hE
     obtain ⟨E1, hE1⟩ : ∃ E1, outE (okB x2 x3) (proB x2 x3) = E1 := ⟨_, rfl⟩
     have HE1 := Lib.hid hE1
     clear hE hE1
     have hEE : (E != E) = false := by simp
     by_cases hz : E = 0
     ·subst hz
      go_wp2_with (first
       | (go_at_call 38; refine (Q.out.aprom x2 x3 0).mono ?_; rintro e Y1 ⟨v, he, h1⟩; rw [HE.out] at he; subst he; obtain ⟨z0, z1, z2, z3, z4⟩ := cells5 h1; have Q1 := Lib.hid h1; clear h1)
       | (go_at_call 39; refine (Q1.out.bprom x2 x3 0).mono ?_; rintro e Y2 ⟨v2, he, h1⟩; rw [HE.out] at he; subst he; obtain ⟨z0, z1, z2, z3, z4⟩ := cells5 h1; have Q2 := Lib.hid h1; clear h1)
       | (go_at_call 11; refine (prom_P x2 x3 _).mono ?_; intro e Y3 hp; obtain ⟨pv, he, h1⟩ := Q2.out.pget hp; rw [HE1.out] at he; subst he; clear hp; obtain ⟨z0, z1, z2, z3, z4⟩ := cells5 h1; have Q3 := Lib.hid h1; clear h1)
       | (go_at_call 19; refine (rprom_P x2 x3 _).mono ?_; intro e Y4 hp; obtain ⟨qv, he, h1⟩ := Q3.out.qget hp; rw [HE1.out] at he; subst he; clear hp; have Q4 := Lib.hid h1; clear h1)
       | (go_at_call 37; refine (Q4.out.wr HT.out D.out (outB_len _ _) (by have := outB_len (okB x2 x3) (proB x2 x3); have := BL.out; have := HI50.out; omega)).mono ?_; rintro e Y5 ⟨rfl, h1⟩; have Q5 := Lib.hid h1; clear h1))
      refine Met.intro ?_
      exact HJC.out _ _ (PCut.of a m l k ra rq _ _ (PI.wr Q5.out D.out (HV1.out ((V.out.prom x2 x3 0).mono (Nat.le_add_right _ _))) BL.out (outB_len _ _) HI50.out) (by kernel_rfl))
     ·have hz' : (E == 0) = false := by simpa using hz
      clear hz
      go_wp2_with (first
       | (go_at_call 38; refine (Q.out.aprom x2 x3 0).mono ?_; rintro e Y1 ⟨v, he, h1⟩; rw [HE.out] at he; subst he; obtain ⟨z0, z1, z2, z3, z4⟩ := cells5 h1; have Q1 := Lib.hid h1; clear h1)
       | (go_at_call 39; refine (Q1.out.bprom x2 x3 0).mono ?_; rintro e Y2 ⟨v2, he, h1⟩; rw [HE.out] at he; subst he; have Q2 := Lib.hid h1; clear h1))
      refine Met.intro ?_
      exact HJC.out _ _ (PCut.of a m l k ra rq _ _ (PI.same Q2.out D.out (HV1.out ((V.out.prom x2 x3 0).mono (Nat.le_add_right _ _))) BL.out) (by kernel_rfl))
    ·have h0' : (x0 == 0) = false := by simpa using h0
     clear h0
     by_cases h1 : x0 = 1
     ·subst h1
      have hx4 := HX4.out
      obtain ⟨E1, hE1⟩ : ∃ E1, outE (okB x2 x3 && slB x1) (accB x2 x3 x1 x4) = E1 := ⟨_, rfl⟩
      have HE1 := Lib.hid hE1
      clear hE1
      by_cases hz : E1 = 0
      ·subst hz
       go_upto_region 28 with (first
        | (go_at_call 12; refine (acc_P x2 x3 x1 x4 _ (by omega)).mono ?_; intro e Y1 hp; obtain ⟨pv, he, h1⟩ := Q.out.pget hp; rw [HE1.out] at he; subst he; clear hp; obtain ⟨z0, z1, z2, z3, z4⟩ := cells5 h1; have Q1 := Lib.hid h1; clear h1)
        | (go_at_call 20; refine (racc_P x2 x3 x1 x4 _ (by omega)).mono ?_; intro e Y2 hp; obtain ⟨qv, he, h1⟩ := Q1.out.qget hp; rw [HE1.out] at he; subst he; clear hp; obtain ⟨z0, z1, z2, z3, z4⟩ := cells5 h1; have Q2 := Lib.hid h1; clear h1))
       have QD := Lib.hid (Q2.out.below (Below.refl _ Y2).drew)
       obtain ⟨E2, hE2⟩ : ∃ E2, acE t.a x2 x3 x1 x4 = E2 := ⟨_, rfl⟩
       have HE2 := Lib.hid hE2
       clear hE2
       refine wp_region_held_drew (S := (fun Y => Y.cell? ⟨bx, 1, none⟩ = some (.int .i64 x1) ∧ Y.cell? ⟨bx, 2, none⟩ = some (.int .i64 x2) ∧ Y.cell? ⟨bx, 3, none⟩ = some (.int .i64 x3) ∧ Y.cell? ⟨bx, 4, none⟩ = some (.string x4))) (by kernel_rfl) ?_ (fun hHeld => ?_)
       ·exact ⟨z1, z2, z3, z4⟩
       try dsimp only at hHeld
       refine hY 0 (some 148) hHeld ?_
       refine hY 1 (some 149) hHeld ?_
       refine hY 2 (some 150) hHeld ?_
       refine hY 3 (some 151) hHeld ?_
       refine hY 4 (some 152) hHeld ?_
       refine hY 5 (some 153) hHeld ?_
       refine hY 6 (some 154) hHeld ?_
       refine hY 8 (some 156) hHeld ?_
       refine hY 9 (some 157) hHeld ?_
       refine hY 10 (some 158) hHeld ?_
       refine hY 11 (some 159) hHeld ?_
       refine hY 12 (some 160) hHeld ?_
       refine hY 13 (some 161) hHeld ?_
       refine hY 14 (some 162) hHeld ?_
       refine wpAnyH_ready (rs := [7]) (by kernel_rfl) (by simp) ?_
       refine (AllReadyH.cons rfl (fun K' hK' => ?_) AllReadyH.nil)
       go_simp
       (refine (QD.out.aacc x2 x3 x1 x4).mono ?_; rintro e Y3 ⟨he, h1⟩; rw [HE2.out] at he; subst he; obtain ⟨z0, z1, z2, z3, z4⟩ := cells5 h1; have Q3 := Lib.hid h1; clear h1)
       go_wp2_with fail
       refine hK'.out _ _ ?_ (fun hHeld => ?_)
       ·first | exact hHeld | exact ⟨z1, z2, z3, z4⟩ | go_keep
       clear hK' K'
       try dsimp only at hHeld
       try simp only [Act.put, List.setIfInBounds_toArray, List.set_cons_zero, List.set_cons_succ]
       refine wpAnyH_ready (rs := [15]) (by kernel_rfl) (by simp) ?_
       refine (AllReadyH.cons rfl (fun K' hK' => ?_) AllReadyH.nil)
       go_simp
       (refine (Q3.out.bacc x2 x3 x1 x4).mono ?_; rintro e Y4 ⟨he, h1⟩; rw [HE2.out] at he; subst he; obtain ⟨z0, z1, z2, z3, z4⟩ := cells5 h1; have Q4 := Lib.hid h1; clear h1)
       go_wp2_with fail
       refine hK'.out _ _ ?_ (fun hHeld => ?_)
       ·first | exact hHeld | exact ⟨z1, z2, z3, z4⟩ | go_keep
       clear hK' K'
       try dsimp only at hHeld
       try simp only [Act.put, List.setIfInBounds_toArray, List.set_cons_zero, List.set_cons_succ]
       refine hY 16 (some 30) hHeld ?_
       refine hY 17 (some 31) hHeld ?_
       refine wpAnyH_done (by kernel_rfl) ?_ _
       by_cases hz2 : E2 = 0
       ·subst hz2
        go_wp2_with (go_at_call 37; refine (Q4.out.wr HT.out D.out (outB_len _ _) (HBF.out _ _)).mono ?_; rintro e Y5 ⟨rfl, h1⟩; (first | rw [if_pos trivial] at h1 | rw [if_pos rfl] at h1); have Q5 := Lib.hid h1; clear h1)
        refine Met.intro ?_
        exact HJC.out _ _ (PCut.of a m l k ra rq _ _ (PI.wr1 Q5.out D.out (HV1.out ((V.out.acc x2 x3 x1 x4).mono (Nat.add_le_add_left HX4.out _))) BL.out (outB_len _ _) HI50.out) (by kernel_rfl))
       ·have hz3 : (E2 != 0) = true := by simpa using hz2
        have hz4 : (E2 == E2) = true := by simp
        clear hz2
        go_wp2_with fail
        refine Met.intro ?_
        exact HJC.out _ _ (PCut.of a m l k ra rq _ _ (PI.same Q4.out D.out (HV1.out ((V.out.acc x2 x3 x1 x4).mono (Nat.add_le_add_left HX4.out _))) BL.out) (by kernel_rfl))
      ·have hz3 : (E1 == 0) = false := by simpa using hz
       have hz4 : (E1 == E1) = true := by simp
       clear hz
       go_wp2_with (first
        | (go_at_call 12; refine (acc_P x2 x3 x1 x4 _ (by omega)).mono ?_; intro e Y1 hp; obtain ⟨pv, he, h1⟩ := Q.out.pget hp; rw [HE1.out] at he; subst he; clear hp; obtain ⟨z0, z1, z2, z3, z4⟩ := cells5 h1; have Q1 := Lib.hid h1; clear h1)
        | (go_at_call 20; refine (racc_P x2 x3 x1 x4 _ (by omega)).mono ?_; intro e Y2 hp; obtain ⟨qv, he, h1⟩ := Q1.out.qget hp; rw [HE1.out] at he; subst he; clear hp; have Q2 := Lib.hid h1; clear h1))
       refine Met.intro ?_
       exact HJC.out _ _ (PCut.of a m l k ra rq _ _ (PI.same Q2.out D.out (V.out.mono (by omega)) BL.out) (by kernel_rfl))
     ·have h1' : (x0 == 1) = false := by simpa using h1
      clear h1
      by_cases h2 : x0 = 2
      ·subst h2
       have hx4 := HX4.out
       obtain ⟨E1, hE1⟩ : ∃ E1, outE (slB x1) (choB x1 x4) = E1 := ⟨_, rfl⟩
       have HE1 := Lib.hid hE1
       clear hE1
       by_cases hz : E1 = 0
       ·subst hz
        go_upto_region 35 with (first
         | (go_at_call 13; refine (cho_P x1 x4 _ (by omega)).mono ?_; intro e Y1 hp; obtain ⟨pv, he, h1⟩ := Q.out.pget hp; rw [HE1.out] at he; subst he; clear hp; obtain ⟨z0, z1, z2, z3, z4⟩ := cells5 h1; have Q1 := Lib.hid h1; clear h1)
         | (go_at_call 21; refine (rcho_P x1 x4 _ (by omega)).mono ?_; intro e Y2 hp; obtain ⟨qv, he, h1⟩ := Q1.out.qget hp; rw [HE1.out] at he; subst he; clear hp; obtain ⟨z0, z1, z2, z3, z4⟩ := cells5 h1; have Q2 := Lib.hid h1; clear h1))
        have QD := Lib.hid (Q2.out.below (Below.refl _ Y2).drew)
        obtain ⟨E2, hE2⟩ : ∃ E2, lputE t.l x1 x4 = E2 := ⟨_, rfl⟩
        have HE2 := Lib.hid hE2
        clear hE2
        refine wp_region_held_drew (S := (fun Y => Y.cell? ⟨bx, 1, none⟩ = some (.int .i64 x1) ∧ Y.cell? ⟨bx, 4, none⟩ = some (.string x4))) (by kernel_rfl) ?_ (fun hHeld => ?_)
        ·exact ⟨z1, z4⟩
        try dsimp only at hHeld
        refine hY 0 (some 206) hHeld ?_
        refine hY 1 (some 207) hHeld ?_
        refine hY 2 (some 208) hHeld ?_
        refine hY 3 (some 209) hHeld ?_
        refine hY 4 (some 210) hHeld ?_
        refine hY 6 (some 212) hHeld ?_
        refine hY 7 (some 213) hHeld ?_
        refine hY 8 (some 214) hHeld ?_
        refine hY 9 (some 215) hHeld ?_
        refine hY 10 (some 216) hHeld ?_
        refine wpAnyH_ready (rs := [5]) (by kernel_rfl) (by simp) ?_
        refine (AllReadyH.cons rfl (fun K' hK' => ?_) AllReadyH.nil)
        go_simp
        (refine (QD.out.aput x1 x4).mono ?_; rintro e Y3 ⟨he, h1⟩; rw [HE2.out] at he; subst he; obtain ⟨z0, z1, z2, z3, z4⟩ := cells5 h1; have Q3 := Lib.hid h1; clear h1)
        go_wp2_with fail
        refine hK'.out _ _ ?_ (fun hHeld => ?_)
        ·first | exact hHeld | exact ⟨z1, z4⟩ | go_keep
        clear hK' K'
        try dsimp only at hHeld
        try simp only [Act.put, List.setIfInBounds_toArray, List.set_cons_zero, List.set_cons_succ]
        refine wpAnyH_ready (rs := [11]) (by kernel_rfl) (by simp) ?_
        refine (AllReadyH.cons rfl (fun K' hK' => ?_) AllReadyH.nil)
        go_simp
        (refine (Q3.out.bput x1 x4).mono ?_; rintro e Y4 ⟨he, h1⟩; rw [HE2.out] at he; subst he; obtain ⟨z0, z1, z2, z3, z4⟩ := cells5 h1; have Q4 := Lib.hid h1; clear h1)
        go_wp2_with fail
        refine hK'.out _ _ ?_ (fun hHeld => ?_)
        ·first | exact hHeld | exact ⟨z1, z4⟩ | go_keep
        clear hK' K'
        try dsimp only at hHeld
        try simp only [Act.put, List.setIfInBounds_toArray, List.set_cons_zero, List.set_cons_succ]
        refine hY 12 (some 36) hHeld ?_
        refine hY 13 (some 37) hHeld ?_
        refine wpAnyH_done (by kernel_rfl) ?_ _
        by_cases hz2 : E2 = 0
        ·subst hz2
         go_wp2_with (go_at_call 37; refine (Q4.out.wr HT.out D.out (outB_len _ _) (HBF.out _ _)).mono ?_; rintro e Y5 ⟨rfl, h1⟩; (first | rw [if_pos trivial] at h1 | rw [if_pos rfl] at h1); have Q5 := Lib.hid h1; clear h1)
         refine Met.intro ?_
         exact HJC.out _ _ (PCut.of a m l k ra rq _ _ (PI.wr1 Q5.out D.out (HV1.out ((V.out.putL x1 x4).mono (Nat.add_le_add_left HX4.out _))) BL.out (outB_len _ _) HI50.out) (by kernel_rfl))
        ·have hz3 : (E2 != 0) = true := by simpa using hz2
         have hz4 : (E2 == E2) = true := by simp
         clear hz2
         go_wp2_with fail
         refine Met.intro ?_
         exact HJC.out _ _ (PCut.of a m l k ra rq _ _ (PI.same Q4.out D.out (HV1.out ((V.out.putL x1 x4).mono (Nat.add_le_add_left HX4.out _))) BL.out) (by kernel_rfl))
       ·have hz3 : (E1 == 0) = false := by simpa using hz
        have hz4 : (E1 == E1) = true := by simp
        clear hz
        go_wp2_with (first
         | (go_at_call 13; refine (cho_P x1 x4 _ (by omega)).mono ?_; intro e Y1 hp; obtain ⟨pv, he, h1⟩ := Q.out.pget hp; rw [HE1.out] at he; subst he; clear hp; obtain ⟨z0, z1, z2, z3, z4⟩ := cells5 h1; have Q1 := Lib.hid h1; clear h1)
         | (go_at_call 21; refine (rcho_P x1 x4 _ (by omega)).mono ?_; intro e Y2 hp; obtain ⟨qv, he, h1⟩ := Q1.out.qget hp; rw [HE1.out] at he; subst he; clear hp; have Q2 := Lib.hid h1; clear h1))
        refine Met.intro ?_
        exact HJC.out _ _ (PCut.of a m l k ra rq _ _ (PI.same Q2.out D.out (V.out.mono (by omega)) BL.out) (by kernel_rfl))
      ·have h2' : (x0 == 2) = false := by simpa using h2
       clear h2
       by_cases h3 : x0 = 3
       ·subst h3
        obtain ⟨E1, hE1⟩ : ∃ E1, foE x1 = E1 := ⟨_, rfl⟩
        have HE1 := Lib.hid hE1
        obtain ⟨E2, hE2⟩ : ∃ E2, lforE t.l x1 = E2 := ⟨_, rfl⟩
        have HE2 := Lib.hid hE2
        clear hE1 hE2
        have hq1 : (E1 == E1) = true := by simp
        have hq2 : (E2 == E2) = true := by simp
        go_upto_region 39 with fail
        have QD := Lib.hid (Q.out.below (Below.refl _ wq).drew)
        refine wp_region_held_drew (S := (fun Y => Y.cell? ⟨bx, 1, none⟩ = some (.int .i64 x1))) (by kernel_rfl) ?_ (fun hHeld => ?_)
        ·exact z1
        try dsimp only at hHeld
        refine hY 0 (some 238) hHeld ?_
        refine hY 1 (some 239) hHeld ?_
        refine hY 2 (some 240) hHeld ?_
        refine hY 4 (some 242) hHeld ?_
        refine hY 5 (some 243) hHeld ?_
        refine hY 6 (some 244) hHeld ?_
        refine wpAnyH_ready (rs := [3]) (by kernel_rfl) (by simp) ?_
        refine (AllReadyH.cons rfl (fun K' hK' => ?_) AllReadyH.nil)
        go_simp
        (refine (QD.out.afor x1).mono ?_; rintro e Y3 ⟨he, h1⟩; rw [HE1.out] at he; subst he; obtain ⟨z0, z1, z2, z3, z4⟩ := cells5 h1; have Q3 := Lib.hid h1; clear h1)
        go_wp2_with fail
        refine hK'.out _ _ ?_ (fun hHeld => ?_)
        ·first | exact hHeld | exact z1 | go_keep
        clear hK' K'
        try dsimp only at hHeld
        try simp only [Act.put, List.setIfInBounds_toArray, List.set_cons_zero, List.set_cons_succ]
        refine wpAnyH_ready (rs := [7]) (by kernel_rfl) (by simp) ?_
        refine (AllReadyH.cons rfl (fun K' hK' => ?_) AllReadyH.nil)
        go_simp
        (refine (Q3.out.bfor x1).mono ?_; rintro e Y4 ⟨he, h1⟩; rw [HE1.out] at he; subst he; obtain ⟨z0, z1, z2, z3, z4⟩ := cells5 h1; have Q4 := Lib.hid h1; clear h1)
        go_wp2_with fail
        refine hK'.out _ _ ?_ (fun hHeld => ?_)
        ·first | exact hHeld | exact z1 | go_keep
        clear hK' K'
        try dsimp only at hHeld
        try simp only [Act.put, List.setIfInBounds_toArray, List.set_cons_zero, List.set_cons_succ]
        refine hY 8 (some 246) hHeld ?_
        refine hY 9 (some 247) hHeld ?_
        refine hY 10 (some 248) hHeld ?_
        refine hY 11 (some 249) hHeld ?_
        refine hY 12 (some 250) hHeld ?_
        refine hY 14 (some 252) hHeld ?_
        refine hY 15 (some 253) hHeld ?_
        refine hY 16 (some 254) hHeld ?_
        refine wpAnyH_ready (rs := [13]) (by kernel_rfl) (by simp) ?_
        refine (AllReadyH.cons rfl (fun K' hK' => ?_) AllReadyH.nil)
        go_simp
        (refine (Q4.out.aforL x1).mono ?_; rintro e Y5 ⟨he, h1⟩; rw [HE2.out] at he; subst he; obtain ⟨z0, z1, z2, z3, z4⟩ := cells5 h1; have Q5 := Lib.hid h1; clear h1)
        go_wp2_with fail
        refine hK'.out _ _ ?_ (fun hHeld => ?_)
        ·first | exact hHeld | exact z1 | go_keep
        clear hK' K'
        try dsimp only at hHeld
        try simp only [Act.put, List.setIfInBounds_toArray, List.set_cons_zero, List.set_cons_succ]
        refine wpAnyH_ready (rs := [17]) (by kernel_rfl) (by simp) ?_
        refine (AllReadyH.cons rfl (fun K' hK' => ?_) AllReadyH.nil)
        go_simp
        (refine (Q5.out.bforL x1).mono ?_; rintro e Y6 ⟨he, h1⟩; rw [HE2.out] at he; subst he; obtain ⟨z0, z1, z2, z3, z4⟩ := cells5 h1; have Q6 := Lib.hid h1; clear h1)
        go_wp2_with fail
        refine hK'.out _ _ ?_ (fun hHeld => ?_)
        ·first | exact hHeld | exact z1 | go_keep
        clear hK' K'
        try dsimp only at hHeld
        try simp only [Act.put, List.setIfInBounds_toArray, List.set_cons_zero, List.set_cons_succ]
        refine hY 18 (some 256) hHeld ?_
        refine hY 19 (some 257) hHeld ?_
        refine hY 20 (some 17) hHeld ?_
        refine wpAnyH_done (by kernel_rfl) ?_ _
        go_wp2_with fail
        refine Met.intro ?_
        exact HJC.out _ _ (PCut.of a m l k ra rq _ _ (PI.same Q6.out D.out (HV1.out (((V.out.forA x1).forL x1).mono (Nat.le_add_right _ _))) BL.out) (by kernel_rfl))
       ·have h3' : (x0 == 3) = false := by simpa using h3
        clear h3
        by_cases h4 : x0 = 4
        ·subst h4
         obtain ⟨E1, hE1⟩ : ∃ E1, cmE t = E1 := ⟨_, rfl⟩
         have HE1 := Lib.hid hE1
         clear hE1
         have hq1 : (E1 == E1) = true := by simp
         have c0 := Q.out.cd
         have c1 := Q.out.cr
         have hgood := Q.out.good
         have DC := Lib.hid (D.out.cm hgood.1 hgood.2 V.out)
         have HVB : Hid (3500000 + i * 150000 ≤ 70000000) := by have := HI50.out; show _ ≤ _; omega
         clear hgood
         go_upto_region 41 with fail
         have QD := Lib.hid (Q.out.p3.below (Below.refl _ wq).drew)
         refine wp_region_held_drew (S := (fun Y => Y.cell? ⟨bd, 0, none⟩ = some (.pointer (some ⟨dp, 0, none⟩)) ∧ Y.cell? ⟨br, 0, none⟩ = some (.pointer (some ⟨rp, 0, none⟩)))) (by kernel_rfl) ?_ (fun hHeld => ?_)
         ·exact ⟨c0, c1⟩
         try dsimp only at hHeld
         refine hY 0 (some 260) hHeld ?_
         refine hY 1 (some 261) hHeld ?_
         refine hY 2 (some 262) hHeld ?_
         refine hY 4 (some 264) hHeld ?_
         refine hY 5 (some 265) hHeld ?_
         refine hY 6 (some 266) hHeld ?_
         refine wpAnyH_ready (rs := [3]) (by kernel_rfl) (by simp) ?_
         refine (AllReadyH.cons rfl (fun K' hK' => ?_) AllReadyH.nil)
         go_simp
         (refine (QD.out.acompact D.out.1 V.out HVB.out).mono ?_; rintro e Y3 ⟨he, h1⟩; rw [HE1.out] at he; subst he; have y0 := h1.cd; have y1 := h1.cr; have Q3 := Lib.hid h1; clear h1)
         go_wp2_with fail
         refine hK'.out _ _ ?_ (fun hHeld => ?_)
         ·first | exact hHeld | exact ⟨y0, y1⟩ | go_keep
         clear hK' K'
         try dsimp only at hHeld
         try simp only [Act.put, List.setIfInBounds_toArray, List.set_cons_zero, List.set_cons_succ]
         refine wpAnyH_ready (rs := [7]) (by kernel_rfl) (by simp) ?_
         refine (AllReadyH.cons rfl (fun K' hK' => ?_) AllReadyH.nil)
         go_simp
         (refine (Q3.out.bcompact V.out HVB.out).mono ?_; rintro e Y4 ⟨he, h1⟩; rw [HE1.out] at he; subst he; have y0 := h1.cd; have y1 := h1.cr; have Q4 := Lib.hid h1; clear h1)
         go_wp2_with fail
         refine hK'.out _ _ ?_ (fun hHeld => ?_)
         ·first | exact hHeld | exact ⟨y0, y1⟩ | go_keep
         clear hK' K'
         try dsimp only at hHeld
         try simp only [Act.put, List.setIfInBounds_toArray, List.set_cons_zero, List.set_cons_succ]
         refine hY 8 (some 268) hHeld ?_
         refine hY 9 (some 17) hHeld ?_
         refine wpAnyH_done (by kernel_rfl) ?_ _
         go_wp2_with fail
         refine Met.intro ?_
         exact HJC.out _ _ (PCut.of a m l k ra rq _ _ (PI.at_ Q4.out DC.out.1 (HV1.out (V.out.mono (Nat.le_add_right _ _))) (Nat.le_trans (Nat.le_trans DC.out.2 BL.out) (Nat.mul_le_mul_right _ (Nat.le_succ i)))) (by kernel_rfl))
        ·have h4' : (x0 == 4) = false := by simpa using h4
         clear h4
         by_cases h5 : x0 = 5
         ·subst h5
          have hx4 := HX4.out
          obtain ⟨E1, hE1⟩ : ∃ E1, outE (okB x2 x3 && slB x1) (accB x2 x3 x1 x4) = E1 := ⟨_, rfl⟩
          have HE1 := Lib.hid hE1
          clear hE1
          go_upto_region 45 with (first
           | (go_at_call 12; refine (acc_P x2 x3 x1 x4 _ (by omega)).mono ?_; intro e Y1 hp; obtain ⟨pv, he, h1⟩ := Q.out.pget hp; rw [HE1.out] at he; subst he; clear hp; obtain ⟨z0, z1, z2, z3, z4⟩ := cells5 h1; have Q1 := Lib.hid h1; clear h1)
           | (go_at_call 20; refine (racc_P x2 x3 x1 x4 _ (by omega)).mono ?_; intro e Y2 hp; obtain ⟨qv, he, h1⟩ := Q1.out.qget hp; rw [HE1.out] at he; subst he; clear hp; have c0 := h1.cd; have c1 := h1.cr; have Q2 := Lib.hid h1; clear h1))
          have QD := Lib.hid (Q2.out.below (Below.refl _ Y2).drew)
          have hq1 : (E1 != E1) = false := by simp
          by_cases hz : E1 = 0
          ·subst hz
           refine wp_region_held_drew (S := (fun Y => Y.cell? ⟨bd, 0, none⟩ = some (.pointer (some ⟨dp, 0, none⟩)) ∧ Y.cell? ⟨br, 0, none⟩ = some (.pointer (some ⟨rp, 0, none⟩)))) (by kernel_rfl) ?_ (fun hHeld => ?_)
           ·exact ⟨c0, c1⟩
           try dsimp only at hHeld
           refine hY 0 (some 291) hHeld ?_
           refine hY 1 (some 292) hHeld ?_
           refine hY 2 (some 293) hHeld ?_
           refine hY 3 (some 294) hHeld ?_
           refine hY 4 (some 295) hHeld ?_
           refine hY 5 (some 296) hHeld ?_
           refine hY 6 (some 297) hHeld ?_
           refine hY 7 (some 298) hHeld ?_
           refine hY 8 (some 299) hHeld ?_
           refine hY 10 (some 301) hHeld ?_
           refine hY 11 (some 302) hHeld ?_
           refine wpAnyH_ready (rs := [9]) (by kernel_rfl) (by simp) ?_
           refine (AllReadyH.cons rfl (fun K' hK' => ?_) AllReadyH.nil)
           go_simp
           (refine (QD.out.dapp HT.out D.out (outB_len _ _) (HBF.out _ _)).mono ?_; rintro e Y3 ⟨rfl, _, _, _, _, _, _, _, h1, hq⟩; have y0 := h1.kd.cell (i := 0) (v := .pointer (some ⟨dp, 0, none⟩)) rfl; have y1 := h1.kr.cell (i := 0) (v := .pointer (some ⟨rp, 0, none⟩)) rfl; have Q3 := Lib.hid h1; have HQ3 := Lib.hid hq; clear h1 hq)
           go_wp2_with fail
           refine hK'.out _ _ ?_ (fun hHeld => ?_)
           ·first | exact hHeld | exact ⟨y0, y1⟩ | go_keep
           clear hK' K'
           try dsimp only at hHeld
           try simp only [Act.put, List.setIfInBounds_toArray, List.set_cons_zero, List.set_cons_succ]
           refine wpAnyH_ready (rs := [12]) (by kernel_rfl) (by simp) ?_
           refine (AllReadyH.cons rfl (fun K' hK' => ?_) AllReadyH.nil)
           go_simp
           (refine (rapp Q3.out HQ3.out D.out.1 (outB_len _ _) (HBF.out _ _)).mono ?_; rintro e Y4 ⟨rfl, h1⟩; have y0 := h1.cd; have y1 := h1.cr; have Q4 := Lib.hid h1; clear h1)
           go_wp2_with fail
           refine hK'.out _ _ ?_ (fun hHeld => ?_)
           ·first | exact hHeld | exact ⟨y0, y1⟩ | go_keep
           clear hK' K'
           try dsimp only at hHeld
           try simp only [Act.put, List.setIfInBounds_toArray, List.set_cons_zero, List.set_cons_succ]
           refine hY 13 (some 304) hHeld ?_
           refine hY 14 (some 305) hHeld ?_
           refine hY 15 (some 306) hHeld ?_
           refine wpAnyH_done (by kernel_rfl) ?_ _
           go_wp2_with fail
           refine Met.intro ?_
           exact HJC.out _ _ (PCut.of a m l k ra rq _ _ (PI.at_ Q4.out (D.out.app (HBF.out _ _)) (HV1.out (V.out.mono (Nat.le_add_right _ _))) (HAP.out _ _)) (by kernel_rfl))
          ·have hz3 : (E1 == 0) = false := by simpa using hz
           clear hz
           refine wp_region_held_drew (S := (fun Y => Y.cell? ⟨bd, 0, none⟩ = some (.pointer (some ⟨dp, 0, none⟩)) ∧ Y.cell? ⟨br, 0, none⟩ = some (.pointer (some ⟨rp, 0, none⟩)))) (by kernel_rfl) ?_ (fun hHeld => ?_)
           ·exact ⟨c0, c1⟩
           try dsimp only at hHeld
           refine hY 0 (some 291) hHeld ?_
           refine hY 1 (some 292) hHeld ?_
           refine hY 2 (some 293) hHeld ?_
           refine hY 3 (some 294) hHeld ?_
           refine hY 4 (some 295) hHeld ?_
           refine hY 5 (some 296) hHeld ?_
           refine hY 6 (some 297) hHeld ?_
           refine hN 7 (some 298) (wanted_t rfl rfl rfl) hHeld ?_
           refine hN 8 (some 299) (wanted_t rfl rfl rfl) hHeld ?_
           refine hN 9 (some 300) (wanted_t rfl rfl rfl) hHeld ?_
           refine hN 10 (some 301) (wanted_t rfl rfl rfl) hHeld ?_
           refine hN 11 (some 302) (wanted_t rfl rfl rfl) hHeld ?_
           refine hN 12 (some 303) (wanted_t rfl rfl rfl) hHeld ?_
           refine hN 13 (some 304) (wanted_t rfl rfl rfl) hHeld ?_
           refine hY 14 (some 305) hHeld ?_
           refine hY 15 (some 306) hHeld ?_
           refine wpAnyH_done (by kernel_rfl) ?_ _
           go_wp2_with fail
           refine Met.intro ?_
           exact HJC.out _ _ (PCut.of a m l k ra rq _ _ (PI.same QD.out D.out (HV1.out (V.out.mono (Nat.le_add_right _ _))) BL.out) (by kernel_rfl))
         ·have h5' : (x0 == 5) = false := by simpa using h5
          clear h5
          by_cases h6 : x0 = 6
          ·subst h6
           have c0 := Q.out.cd
           have hdt := D.out.torn x1
           have DT := Lib.hid hdt
           have HX1 : Hid (-9223372036854775808 ≤ x1 ∧ x1 ≤ 9223372036854775807) := HOK.out.2.1
           have HTL : Hid ((tornD ds x1).b.length ≤ (i + 1) * 65544) := Nat.le_trans (Nat.le_trans hdt.2 BL.out) (Nat.mul_le_mul_right _ (Nat.le_succ i))
           clear hdt
           cases ho : recO n (tornD ds x1) with
           | none =>
            have HO := Lib.hid ho
            clear ho
            go_wp2_with (first
             | (go_at_call 51; refine (Q.out.p3.atear HT.out D.out.1 x1 HX1.out).mono ?_; rintro e Y1 ⟨rfl, h1⟩; have z1 := (h1.box (by simp)).cell (i := 1) (v := .int .i64 x1) rfl; have c1 := h1.cr; have Q1 := Lib.hid h1; clear h1)
             | (go_at_call 52; refine (Q1.out.btear D.out.1 x1 HX1.out).mono ?_; rintro e Y2 ⟨rfl, h1⟩; have c0 := h1.cd; have c1 := h1.cr; have Q2 := Lib.hid h1; clear h1)
             | (go_at_call 15; refine (Q2.out.arec_ HT.out HN.out DT.out.1.1).mono ?_; intro e Y3 hr; rw [HO.out] at hr; obtain ⟨rfl, h1⟩ := hr; have c1 := h1.cr; have Q3 := Lib.hid h1; clear h1)
             | (go_at_call 32; refine (Q3.out.brec HN.out DT.out.1.1).mono ?_; intro e Y4 hr; rw [HO.out] at hr; obtain ⟨rfl, hb⟩ := hr; have B4 := Lib.hid hb; clear hb)
             | (go_at_call 18; refine (works_any _ (HFA.out _ B4.out)).mono ?_; rintro e Y5 ⟨rfl, hb⟩; have B5 := Lib.hid (bchain B4.out hb); clear hb))
            go_returns
            exact ⟨rfl, B5.out⟩
           | some t' =>
            have HO := Lib.hid ho
            have HVT : Hid (Vi n t' (3500000 + (i + 1) * 150000)) := (recO_vi DT.out.1 ho).mono (by have := DT.out.2; have := BL.out; have := HI50.out; omega)
            clear ho
            go_wp2_with (first
             | (go_at_call 51; refine (Q.out.p3.atear HT.out D.out.1 x1 HX1.out).mono ?_; rintro e Y1 ⟨rfl, h1⟩; have z1 := (h1.box (by simp)).cell (i := 1) (v := .int .i64 x1) rfl; have c1 := h1.cr; have Q1 := Lib.hid h1; clear h1)
             | (go_at_call 52; refine (Q1.out.btear D.out.1 x1 HX1.out).mono ?_; rintro e Y2 ⟨rfl, h1⟩; have c0 := h1.cd; have c1 := h1.cr; have Q2 := Lib.hid h1; clear h1)
             | (go_at_call 15; refine (Q2.out.arec HT.out HN.out DT.out.1.1).mono ?_; intro e Y3 hr; rw [HO.out] at hr; obtain ⟨a', m', l', k', rfl, h1⟩ := hr; have c1 := h1.cr; have Q3 := Lib.hid h1; clear h1)
             | (go_at_call 32; refine (Q3.out.brec HN.out DT.out.1.1).mono ?_; intro e Y4 hr; rw [HO.out] at hr; obtain ⟨ra', rq', rfl, h1⟩ := hr; have Q4 := Lib.hid h1; clear h1))
            refine Met.intro ?_
            exact HJC.out _ _ (PCut.of a' m' l' k' ra' rq' _ _ (PI.at_ Q4.out DT.out.1 HVT.out HTL.out) (by kernel_rfl))
          ·have h6' : (x0 == 6) = false := by simpa using h6
           clear h6
           go_wp2_with fail
           refine Met.intro ?_
           exact HJC.out _ _ (PCut.of a m l k ra rq _ _ (PI.same Q.out D.out (V.out.mono (by omega)) BL.out) (by kernel_rfl))
  ·have hil : i = L.length := by omega
   subst hil
   have hbw := PP.out.bel
   have HW := Lib.hid (works_any wr (HFA.out _ hbw))
   have HBW := Lib.hid hbw
   clear hbw
   go_wp2_with (go_at_call 18; refine HW.out.mono ?_; rintro e x17 ⟨rfl, hb⟩; have B17 := Lib.hid (bchain HBW.out hb); clear hb)
   go_returns
   exact ⟨rfl, B17.out⟩
end Go.Proofs.YtlfikhblmbidmaaGreatDoor.stablePlays