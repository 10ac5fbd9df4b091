import Derived.Test.YtlfikhblmbidmaaGreatDoorPlyC
set_option linter.all false
namespace Go.Proofs.YtlfikhblmbidmaaGreatDoor
open Go.RowKit Go.Maps
structure P3 (w X : World) (dp dq rp a m l k ra rq bd br bs : Nat) (sc : Array Value) (ds es : DSt) (t u : NSt) : Prop where
 ex : ∃ dv dsv rv rsv rav rlv rl, PS w X dp dq dv dsv rp rv rsv ds es a m l k ra rav rq rlv rl t u bd br bs sc
theorem P2.p3 {n : Int} {w X : World} {dp dq rp a m l k ra rq bd br bs : Nat} {ds : DSt} {t u : NSt} {sc : Array Value} {pv qv : Value} {pb qb : List UInt8} (h : P2 n w X dp dq rp a m l k ra rq bd br bs sc pv pb qv qb ds t u) : P3 w X dp dq rp a m l k ra rq bd br bs sc ds ds t u := by
 obtain ⟨dv, dsv, rv, rsv, rav, rlv, rl, h, _⟩ := h.ex
 exact ⟨_, _, _, _, _, _, _, h⟩
def cmE (t : NSt) : Int := if 65536 < (snapB t).length then 11 else 0
def cmD (t : NSt) (ds : DSt) : DSt := if 65536 < (snapB t).length then ds else ⟨[], 0, snapB t, true⟩
theorem DI.cm {n : Int} {ds : DSt} {t : NSt} {B : Nat} (h : DI n ds) (ha : AGood t.a) (hl : LGood t.l) (hv : Vi n t B) : DI n (cmD t ds) ∧ (cmD t ds).b.length ≤ ds.b.length := by
 unfold cmD
 split
 ·exact ⟨h, Nat.le_refl _⟩
 ·exact ⟨DI.snap ha hl hv (by omega), Nat.zero_le _⟩
namespace P3
variable {n : Int} {w X Y : World} {dp dq rp a m l k ra rq bd br bs : Nat} {ds es : DSt} {t u : NSt} {sc : Array Value}
theorem p2 (h : P3 w X dp dq rp a m l k ra rq bd br bs sc ds ds t u) : P2 n w X dp dq rp a m l k ra rq bd br bs sc (.slice none 0 0) [] (.slice none 0 0) [] ds t u := by
 obtain ⟨dv, dsv, rv, rsv, rav, rlv, rl, h⟩ := h.ex
 exact ⟨_, _, _, _, _, _, _, h, LRow.nil _, LRow.nil _, fun i e => by cases e⟩
theorem below (h : P3 w X dp dq rp a m l k ra rq bd br bs sc ds es t u) (b : Below X.heap.size X Y) : P3 w Y dp dq rp a m l k ra rq bd br bs sc ds es t u := by
 obtain ⟨dv, dsv, rv, rsv, rav, rlv, rl, h⟩ := h.ex
 exact ⟨_, _, _, _, _, _, _, h.below b⟩
theorem box (h : P3 w X dp dq rp a m l k ra rq bd br bs sc ds es t u) (hs : sc.size ≠ 0) : Blk X bs 66 sc := by
 obtain ⟨dv, dsv, rv, rsv, rav, rlv, rl, h⟩ := h.ex
 exact h.box hs
theorem cd (h : P3 w X dp dq rp a m l k ra rq bd br bs sc ds es t u) : X.cell? ⟨bd, 0, none⟩ = some (.pointer (some ⟨dp, 0, none⟩)) := by
 obtain ⟨dv, dsv, rv, rsv, rav, rlv, rl, h⟩ := h.ex
 exact h.kd.cell (i := 0) rfl
theorem cr (h : P3 w X dp dq rp a m l k ra rq bd br bs sc ds es t u) : X.cell? ⟨br, 0, none⟩ = some (.pointer (some ⟨rp, 0, none⟩)) := by
 obtain ⟨dv, dsv, rv, rsv, rav, rlv, rl, h⟩ := h.ex
 exact h.kr.cell (i := 0) rfl
theorem bel (h : P3 w X dp dq rp a m l k ra rq bd br bs sc ds es t u) : Below w.heap.size w X := by
 obtain ⟨dv, dsv, rv, rsv, rav, rlv, rl, h⟩ := h.ex
 exact h.two.bel
theorem acompact {B : Nat} (h : P3 w X dp dq rp a m l k ra rq bd br bs sc ds es t u) (hd : DGood ds) (hv : Vi n t B) (hB : B ≤ 70000000) :
  Calls Tryz.prog 17 #[.pointer (some ⟨dp, 0, none⟩), .pointer (some ⟨a, 0, none⟩), .pointer (some ⟨l, 0, none⟩)] X fun e Y => e = .returned (.int .i64 (cmE t)) ∧ P3 w Y dp dq rp a m l k ra rq bd br bs sc (cmD t ds) es t u := by
 obtain ⟨dv, dsv, rv, rsv, rav, rlv, rl, h⟩ := h.ex
 have hs := snapB_len h.ns.a.good h.ns.l.good hv.v
 have := hv.s
 refine (compact_any h.two.d hd h.ns (by omega) hv.v).mono ?_
 rintro e Y ⟨h1, h2⟩
 unfold cmE cmD
 by_cases hl : 65536 < (snapB t).length
 ·obtain ⟨rfl, hb⟩ := h1 hl
  rw [if_pos hl, if_pos hl]
  exact ⟨rfl, _, _, _, _, _, _, _, h.below hb⟩
 ·obtain ⟨rfl, sv', hs⟩ := h2 (by omega)
  rw [if_neg hl, if_neg hl]
  exact ⟨rfl, _, _, _, _, _, _, _, h.dstep hs⟩
theorem bcompact {B : Nat} (h : P3 w X dp dq rp a m l k ra rq bd br bs sc ds es t u) (hv : Vi n u B) (hB : B ≤ 70000000) :
  Calls Tryz.prog 48 #[.pointer (some ⟨rp, 0, none⟩), .pointer (some ⟨ra, 0, none⟩), .pointer (some ⟨rq, 0, none⟩)] X fun e Y => e = .returned (.int .i64 (cmE u)) ∧ P3 w Y dp dq rp a m l k ra rq bd br bs sc ds (cmD u es) t u := by
 obtain ⟨dv, dsv, rv, rsv, rav, rlv, rl, h⟩ := h.ex
 have hs := snapB_len h.rn.ac.good h.rn.lg.good hv.v
 have := hv.s
 refine (rcompact_any h.two.r h.rn (by omega) hv.v).mono ?_
 rintro e Y ⟨h1, h2⟩
 unfold cmE cmD
 by_cases hl : 65536 < (snapB u).length
 ·obtain ⟨rfl, hb⟩ := h1 hl
  rw [if_pos hl, if_pos hl]
  exact ⟨rfl, _, _, _, _, _, _, _, h.below hb⟩
 ·obtain ⟨rfl, sv', hs⟩ := h2 (by omega)
  rw [if_neg hl, if_neg hl]
  exact ⟨rfl, _, _, _, _, _, _, _, h.rstep hs⟩
theorem atear (h : P3 w X dp dq rp a m l k ra rq bd br bs sc ds es t u) (hF : FoursAt w) (hd : DGood ds) (left : Int) (hl : -9223372036854775808 ≤ left ∧ left ≤ 9223372036854775807) :
  Calls Tryz.prog 51 #[.pointer (some ⟨dp, 0, none⟩), .int .i64 left] X fun e Y => e = .returned (.tuple #[]) ∧ P3 w Y dp dq rp a m l k ra rq bd br bs sc (tornD ds left) es t u := by
 obtain ⟨dv, dsv, rv, rsv, rav, rlv, rl, h⟩ := h.ex
 refine (dtear_any left h.two.d hd (hF.below h.two.bel) hl).mono ?_
 rintro e Y ⟨rfl, v', hs⟩
 exact ⟨rfl, _, _, _, _, _, _, _, h.dstep hs⟩
theorem btear (h : P3 w X dp dq rp a m l k ra rq bd br bs sc ds es t u) (hd : DGood es) (left : Int) (hl : -9223372036854775808 ≤ left ∧ left ≤ 9223372036854775807) :
  Calls Tryz.prog 52 #[.pointer (some ⟨rp, 0, none⟩), .int .i64 left] X fun e Y => e = .returned (.tuple #[]) ∧ P3 w Y dp dq rp a m l k ra rq bd br bs sc ds (tornD es left) t u := by
 obtain ⟨dv, dsv, rv, rsv, rav, rlv, rl, h⟩ := h.ex
 refine (rdtear_any left h.two.r hd hl).mono ?_
 rintro e Y ⟨rfl, v', hs⟩
 exact ⟨rfl, _, _, _, _, _, _, _, h.rstep hs⟩
def ARec (w : World) (dp dq rp ra rq bd br bs : Nat) (sc : Array Value) (ds es : DSt) (u : NSt) (o : Option NSt) (e : Ending) (Y : World) : Prop := match o with
 | none => e = .returned (.tuple #[.pointer none, .pointer none, .int .i64 10]) ∧ Below w.heap.size w Y
 | some t => ∃ a m l k, e = .returned (.tuple #[.pointer (some ⟨a, 0, none⟩), .pointer (some ⟨l, 0, none⟩), .int .i64 0]) ∧ P3 w Y dp dq rp a m l k ra rq bd br bs sc ds es t u
theorem arec (h : P3 w X dp dq rp a m l k ra rq bd br bs sc ds es t u) (hF : FoursAt w) (hn : okN n) (hd : DGood ds) :
  Calls Tryz.prog 15 #[.int .i64 n, .pointer (some ⟨dp, 0, none⟩)] X (ARec w dp dq rp ra rq bd br bs sc ds es u (recO n ds)) := by
 obtain ⟨dv, dsv, rv, rsv, rav, rlv, rl, h⟩ := h.ex
 refine (recover_all n hn h.two.d hd (hF.below h.two.bel) (fun _ => by have := hd.st; omega)).mono ?_
 intro e Y hr
 unfold ARec
 cases ho : recO n ds with
 | none =>
  rw [ho] at hr
  obtain ⟨hb, rfl⟩ := hr
  exact ⟨rfl, h.two.bel.trans (hb.mono h.two.bel.size)⟩
 | some t' =>
  rw [ho] at hr
  obtain ⟨hb, na, nm, nq, nk, rfl, hns, hlo⟩ := hr
  have g := h.below hb
  exact ⟨_, _, _, _, rfl, _, _, _, _, _, _, _, g.two, hns, g.rn, fun i e => Nat.le_trans h.two.bel.size (hlo i e), g.kd, g.kr, g.ks⟩
def ARec0 (w : World) (dp dq rp a m l k ra rq bd br bs : Nat) (sc : Array Value) (ds es : DSt) (t u : NSt) (o : Option NSt) (e : Ending) (Y : World) : Prop := match o with
 | none => e = .returned (.tuple #[.pointer none, .pointer none, .int .i64 10]) ∧ P3 w Y dp dq rp a m l k ra rq bd br bs sc ds es t u
 | some _ => True
theorem arec_ (h : P3 w X dp dq rp a m l k ra rq bd br bs sc ds es t u) (hF : FoursAt w) (hn : okN n) (hd : DGood ds) :
  Calls Tryz.prog 15 #[.int .i64 n, .pointer (some ⟨dp, 0, none⟩)] X (ARec0 w dp dq rp a m l k ra rq bd br bs sc ds es t u (recO n ds)) := by
 obtain ⟨dv, dsv, rv, rsv, rav, rlv, rl, h⟩ := h.ex
 refine (recover_all n hn h.two.d hd (hF.below h.two.bel) (fun _ => by have := hd.st; omega)).mono ?_
 intro e Y hr
 unfold ARec0
 cases ho : recO n ds with
 | none =>
  rw [ho] at hr
  obtain ⟨hb, rfl⟩ := hr
  exact ⟨rfl, _, _, _, _, _, _, _, h.below hb⟩
 | some t' => trivial
def BRec (w : World) (dp dq rp a m l k bd br bs : Nat) (sc : Array Value) (ds es : DSt) (t : NSt) (o : Option NSt) (e : Ending) (Y : World) : Prop := match o with
 | none => e = .returned (.tuple #[.pointer none, .pointer none, .int .i64 10]) ∧ Below w.heap.size w Y
 | some u => ∃ ra rq, e = .returned (.tuple #[.pointer (some ⟨ra, 0, none⟩), .pointer (some ⟨rq, 0, none⟩), .int .i64 0]) ∧ P3 w Y dp dq rp a m l k ra rq bd br bs sc ds es t u
theorem brec (h : P3 w X dp dq rp a m l k ra rq bd br bs sc ds es t u) (hn : okN n) (hd : DGood es) :
  Calls Tryz.prog 32 #[.int .i64 n, .pointer (some ⟨rp, 0, none⟩)] X (BRec w dp dq rp a m l k bd br bs sc ds es t (recO n es)) := by
 obtain ⟨dv, dsv, rv, rsv, rav, rlv, rl, h⟩ := h.ex
 refine (rrecover_any n hn h.two.r hd).mono ?_
 intro e Y hr
 unfold BRec
 cases ho : recO n es with
 | none =>
  rw [ho] at hr
  obtain ⟨hb, rfl⟩ := hr
  exact ⟨rfl, h.two.bel.trans (hb.mono h.two.bel.size)⟩
 | some u' =>
  rw [ho] at hr
  obtain ⟨hb, ra', rav', rq', rlv', rl', rfl, hrn⟩ := hr
  have g := h.below hb
  exact ⟨_, _, rfl, _, _, _, _, _, _, _, g.two, g.ns, hrn.lower_ h.two.bel.size, g.nlo, g.kd, g.kr, g.ks⟩
end P3
theorem rapp {w X : World} {dp dq rp a m l k ra rq bd br bs : Nat} {ds es : DSt} {t u : NSt} {sc : Array Value} {dv dsv rv rsv rav rlv qv : Value} {rl : VL} {qb : List UInt8} (h : PS w X dp dq dv dsv rp rv rsv ds es a m l k ra rav rq rlv rl t u bd br bs sc) (hq : LRow X qv qb) (hd : DGood es) (hl : qb.length ≤ 65536) (hf : es.b.length + 8 + qb.length ≤ 16777216) :
  Calls Tryz.prog 50 #[.pointer (some ⟨rp, 0, none⟩), qv] X fun e Y => e = .returned (.int .i64 0) ∧ P3 w Y dp dq rp a m l k ra rq bd br bs sc ds { es with b := es.b ++ frameB qb } t u := by
 refine (rdapp_yes _ qb h.two.r hd (LRow.bsIn hq) hl hf).mono ?_
 rintro e Y ⟨rfl, v', hs⟩
 exact ⟨rfl, _, _, _, _, _, _, _, h.rstep hs⟩
end Go.Proofs.YtlfikhblmbidmaaGreatDoor