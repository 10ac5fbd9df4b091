import Derived.Test.YtlfikhblmbidmaaGreatDoorLoadP
import Derived.Test.YtlfikhblmbidmaaGreatDoorEsC
import Derived.Test.YtlfikhblmbidmaaGreatDoorSltF
set_option linter.all false
namespace Go.Proofs.YtlfikhblmbidmaaGreatDoor
open Go.RowKit Go.Maps
theorem lputS_zero {s : LogSt} {k : Int} {v : ByteArray} (h : lputE s k v = 0) : (lputS s k v).base = s.base ∧ (lputS s k v).L = put k v s.L := by
 unfold lputS
 rw [if_pos h]
 exact ⟨rfl, rfl⟩
theorem lpF_run : ∀ (H : VL) (s : LogSt), (∀ x ∈ H, 0 ≤ x.1 ∧ x.1 ≤ 4095 ∧ x.2.size ≤ 65536 ∧ s.base ≤ x.1) → Srt H → (∀ x ∈ H, ∀ p ∈ s.L, p.1 ≠ x.1) → ∃ s', lpF s H = some s'
 | [], s, _, _, _ => ⟨s, rfl⟩
 | x :: r, s, h, hs, hd => by
  obtain ⟨h1, h2, h3, h4⟩ := h x (by simp)
  obtain ⟨s1, s2⟩ := List.pairwise_cons.1 hs
  have he : lputE s x.1 x.2 = 0 := lputE_zero.2 ⟨h1, by omega, h3, h4, fun e => by
   have : get x.1 s.L = none := get_none.2 fun p hp => hd x (by simp) p hp
   rw [this] at e; cases e⟩
  obtain ⟨e1, e2⟩ := lputS_zero he
  obtain ⟨s', e⟩ := lpF_run r (lputS s x.1 x.2) (fun y hy => by
   obtain ⟨y1, y2, y3, y4⟩ := h y (by simp [hy])
   exact ⟨y1, y2, y3, by rw [e1]; exact y4⟩) s2 (fun y hy p hp => by
   rw [e2] at hp
   have hxy : x.1 < y.1 := s1 y hy
   rcases mem_put.1 hp with rfl | ⟨hp, _⟩
   ·show x.1 ≠ y.1; omega
   ·exact hd y (by simp [hy]) p hp)
  exact ⟨s', by simp only [lpF]; rw [if_pos he]; exact e⟩
theorem ljmp_new {c : Nat} (h : c ≤ 4096) : ljmpE newLog (c : Int) = 0 := by
 unfold ljmpE
 rw [if_neg (by omega), if_neg (by show ¬ (c : Int) < 0; omega)]
theorem lpF_all {c k : Nat} {s s' : Rd} {H : VL} (hc : c ≤ 4096) (h : hasP k ((c : Int) - 1) s = some (H, s')) : ∃ t, lpF (ljmpS newLog (c : Int)) H = some t := by
 obtain ⟨h1, h2, _⟩ := hasP_ok _ _ _ _ _ h
 have e : ljmpS newLog (c : Int) = lcut newLog (c : Int) := by unfold ljmpS; rw [if_pos (ljmp_new hc)]
 refine lpF_run H _ (fun x hx => ?_) h2 (fun x hx p hp => ?_)
 ·have := h1 x hx
  refine ⟨by omega, this.2.1, this.2.2, ?_⟩
  rw [e]
  show (c : Int) ≤ x.1
  omega
 ·rw [e] at hp
  have hp : p ∈ (newLog.L.filter fun p => !decide (p.1 < (c : Int))) := hp
  simp [newLog] at hp
def loadP (n : Int) (s : Rd) : Option (NSt × Rd) :=
 (rdB s).bind fun p => if (p.1.1 = 0 ∧ p.1.2 = 0) ∨ goodB n p.1.1 p.1.2 = true then
  (rdN 4096 p.2).bind fun b => (rdN 4096 b.2).bind fun k => (entP n p.1 k.1 ((b.1 : Int) - 1) k.2).bind fun e =>
  (rdN 4096 e.2).bind fun c => (rdN 4096 c.2).bind fun m => (hasP m.1 ((c.1 : Int) - 1) m.2).bind fun h =>
  (lpF (ljmpS newLog (c.1 : Int)) h.1).map fun l => (⟨⟨n, p.1.1, p.1.2, b.1, toEL e.1⟩, l⟩, h.2)
 else none
theorem rbal_some (lo p a b : Nat) (st st' : Rd) (w : World) (h : RdAt w lo p st) (hs : Rsmall st) (hr : rdB st = some ((a, b), st')) :
  Calls Tryz.prog 158 #[rdV p] w fun e w' => e = .returned (balV (a : Int) (b : Int)) ∧ RStep w lo p w' st' := by
 rcases rdB_cases st with ⟨_, e⟩ | ⟨_, _, _, _, e⟩ | ⟨a1, s1, b1, s2, h1, h2, e⟩
 ·rw [e] at hr; cases hr
 ·rw [e] at hr; cases hr
 ·rw [e] at hr
  cases hr
  exact rbal_yes lo p _ _ st s1 _ w h hs h1 h2
theorem rbal_none (lo p : Nat) (st : Rd) (w : World) (h : RdAt w lo p st) (hs : Rsmall st) (hr : rdB st = none) :
  Calls Tryz.prog 158 #[rdV p] w fun e w' => e = .panicked malC ∧ Fr (S1 p) w w' := by
 rcases rdB_cases st with ⟨h1, _⟩ | ⟨_, _, h1, h2, _⟩ | ⟨a1, s1, b1, s2, h1, h2, e⟩
 ·exact rbal_no1 lo p st w h hs h1
 ·exact rbal_no2 lo p _ st _ w h hs h1 h2
 ·rw [e] at hr; cases hr
theorem Rsmall.b {st st' : Rd} {x : Nat × Nat} (h : Rsmall st) (hr : rdB st = some (x, st')) : Rsmall st' := by
 rcases rdB_cases st with ⟨_, e⟩ | ⟨_, _, _, _, e⟩ | ⟨a1, s1, b1, s2, h1, h2, e⟩
 ·rw [e] at hr; cases hr
 ·rw [e] at hr; cases hr
 ·rw [e] at hr
  cases hr
  exact (h.n h1).n h2
set_option maxHeartbeats 1000000 in
theorem lgood_any (bn : Nat) (n r1 d1 : Int) (w : World) (h : w.cell? ⟨bn, 0, none⟩ = some (.int .i64 n)) :
  Calls Tryz.prog 157 #[balV r1 d1, .pointer (some ⟨bn, 0, none⟩)] w fun e w' => e = .returned (.bool (goodB n r1 d1)) ∧ Below w.heap.size w w' := by
 have hE := fun (a b c d : Int) (w : World) => eqBal a b c d w
 have hG := eqGBal
 have hB0 := fun w => bldBal0 w
 have hb := box_below w (.cells #[.int .i64 r1, .int .i64 d1] 24)
 have k0 := bcell hb h
 have b1 := Blk.new w 24 #[.int .i64 r1, .int .i64 d1]
 have e0 := b1.cell (i := 0) (v := .int .i64 r1) rfl
 have e1 := b1.cell (i := 1) (v := .int .i64 d1) rfl
 have HB := Lib.hid hb
 unfold goodB
 obtain ⟨z, hz⟩ : ∃ z, (r1 == 0 && d1 == 0) = z := ⟨_, rfl⟩
 clear h hb b1
 cases z with
 | true =>
  go_enter Tryz.func157, Tryz.ntmps157
  go_wp2_with fail
  go_returns
  exact ⟨by rw [hz]; rfl, HB.out⟩
 | false =>
  go_enter Tryz.func157, Tryz.ntmps157
  go_wp2_with (go_at_call 149; refine (check_any _ _ _ _).mono ?_; rintro e w2 ⟨rfl, b2⟩; have HB2 := Lib.hid (bchain HB.out b2); clear b2)
  go_returns
  exact ⟨by rw [hz]; simp, HB2.out⟩
def LF (p a m q k i : Nat) : Prop := i = p ∨ nF a m q k i
structure LdS (W X : World) (sb lo p a m q k : Nat) (n : Int) (st : Rd) (t : NSt) : Prop where
 rd : RdAt X lo p st
 ns : NS X a m q k t
 s : Blk X sb 113 #[.pointer (some ⟨a, 0, none⟩), .pointer (some ⟨q, 0, none⟩)]
 n : Blk X (sb + 1) 3 #[.int .i64 n]
 r : Blk X (sb + 2) 117 #[.pointer (some ⟨p, 0, none⟩)]
 fr : Fr (LF p a m q k) W X
 nlo : ∀ i, nF a m q k i → i < lo
 psb : p < sb
 wsz : W.heap.size ≤ sb + 3
namespace LdS
variable {W X Y : World} {sb lo p a m q k : Nat} {n : Int} {st st' : Rd} {t t' : NSt}
theorem lop (h : LdS W X sb lo p a m q k n st t) : lo ≤ p := h.rd.lo
theorem rstep (h : LdS W X sb lo p a m q k n st t) (s : RStep X lo p Y st') : LdS W Y sb lo p a m q k n st' t := by
 have h1 := h.lop
 have h2 := h.psb
 exact ⟨s.at_, h.ns.fr s.fr (fun i hi e => by have e : i = p := e; have := h.nlo i hi; omega), h.s.fr s.fr (fun e => by have e : sb = p := e; omega), h.n.fr s.fr (fun e => by have e : sb + 1 = p := e; omega), h.r.fr s.fr (fun e => by have e : sb + 2 = p := e; omega),
  h.fr.trans (s.fr.mono fun i e => .inl e), h.nlo, h.psb, h.wsz⟩
theorem nstep (h : LdS W X sb lo p a m q k n st t) (hn : NS Y a m q k t') (f : Fr (nF a m q k) X Y) : LdS W Y sb lo p a m q k n st t' := by
 have h1 := h.lop
 have h2 := h.psb
 have h3 : ∀ i, lo ≤ i → ¬ nF a m q k i := fun i hi e => by have := h.nlo i e; omega
 exact ⟨h.rd.fr f (fun i h1 _ => h3 i h1), hn, h.s.fr f (h3 _ (by omega)), h.n.fr f (h3 _ (by omega)), h.r.fr f (h3 _ (by omega)), h.fr.trans (f.mono fun i e => .inr e), h.nlo, h.psb, h.wsz⟩
theorem below (h : LdS W X sb lo p a m q k n st t) (b : Below X.heap.size X Y) : LdS W Y sb lo p a m q k n st t := h.rstep (RStep.below h.rd b)
theorem ofFr {S : Nat → Prop} (h : LdS W X sb lo p a m q k n st t) (f : Fr S X Y) (hS : ∀ i, S i → sb + 2 < i) : LdS W Y sb lo p a m q k n st t := by
 have h1 := h.lop
 have h2 := h.psb
 exact ⟨h.rd.fr f (fun i _ h3 e => by have := hS i e; omega), h.ns.fr f (fun i hi e => by have := hS i e; have := h.nlo i hi; omega), h.s.fr f (fun e => by have := hS _ e; omega), h.n.fr f (fun e => by have := hS _ e; omega), h.r.fr f (fun e => by have := hS _ e; omega),
  h.fr.trans' f (fun i hi e => by have := hS i e; have := h.wsz; omega), h.nlo, h.psb, h.wsz⟩
theorem c0 (h : LdS W X sb lo p a m q k n st t) : X.cell? ⟨sb, 0, none⟩ = some (.pointer (some ⟨a, 0, none⟩)) := h.s.cell (i := 0) rfl
theorem c1 (h : LdS W X sb lo p a m q k n st t) : X.cell? ⟨sb, 1, none⟩ = some (.pointer (some ⟨q, 0, none⟩)) := h.s.cell (i := 1) rfl
theorem c2 (h : LdS W X sb lo p a m q k n st t) : X.cell? ⟨sb + 1, 0, none⟩ = some (.int .i64 n) := h.n.cell (i := 0) rfl
theorem c3 (h : LdS W X sb lo p a m q k n st t) : X.cell? ⟨sb + 2, 0, none⟩ = some (.pointer (some ⟨p, 0, none⟩)) := h.r.cell (i := 0) rfl
end LdS
end Go.Proofs.YtlfikhblmbidmaaGreatDoor