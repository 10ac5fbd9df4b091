import Derived.Test.YtlfikhblmbidmaaGreatDoorKdP
import Derived.Test.YtlfikhblmbidmaaGreatDoorR16C
set_option linter.all false
namespace Go.Proofs.YtlfikhblmbidmaaGreatDoor
open Go.RowKit Go.Maps
structure PS (w X : World) (dp dq : Nat) (dv dsv : Value) (rp : Nat) (rv rsv : Value) (ds es : DSt) (a m l k ra : Nat) (rav : Value) (rq : Nat) (rlv : Value) (rl : VL) (t u : NSt) (bd br bs : Nat) (sc : Array Value) : Prop where
 two : TwoD w X dp dq dv dsv rp rv rsv ds es
 ns : NS X a m l k t
 rn : RNS X w.heap.size ra rav rq rlv rl u
 nlo : ∀ i, nF a m l k i → w.heap.size ≤ i
 kd : Blk X bd 33 #[.pointer (some ⟨dp, 0, none⟩)]
 kr : Blk X br 51 #[.pointer (some ⟨rp, 0, none⟩)]
 ks : sc.size = 0 ∨ Blk X bs 66 sc
namespace PS
variable {w X Y : World} {dp dq rp a m l k ra rq bd br bs : Nat} {dv dsv rv rsv rav rlv dv' dsv' rv' rsv' rav' rlv' : Value} {ds es ds' es' : DSt} {rl rl' : VL} {t u t' u' : NSt} {sc : Array Value}
theorem below (h : PS w X dp dq dv dsv rp rv rsv ds es a m l k ra rav rq rlv rl t u bd br bs sc) (b : Below X.heap.size X Y) : PS w Y dp dq dv dsv rp rv rsv ds es a m l k ra rav rq rlv rl t u bd br bs sc :=
 ⟨h.two.below b, h.ns.below b, h.rn.below b, h.nlo, h.kd.of_block (b.block _ h.kd.lt), h.kr.of_block (b.block _ h.kr.lt), h.ks.imp id (fun e => e.of_block (b.block _ e.lt))⟩
theorem nstep (h : PS w X dp dq dv dsv rp rv rsv ds es a m l k ra rav rq rlv rl t u bd br bs sc) (hn : NS Y a m l k t') (f : Fr (nF a m l k) X Y) : PS w Y dp dq dv dsv rp rv rsv ds es a m l k ra rav rq rlv rl t' u bd br bs sc := by
 have K := fun T h1 h2 => h.ns.keepT f T h1 h2
 exact ⟨⟨h.two.d.keepT (fun T e => by rcases e with rfl | rfl | rfl <;> exact K _ (by decide) (by decide)), h.two.r.keepT (fun T e => by rcases e with rfl | rfl <;> exact K _ (by decide) (by decide)), h.two.bel.trans (f.below h.two.bel.size h.nlo), h.two.dlo, h.two.rlo, h.two.ne⟩,
  hn, h.rn.keepT' (fun T e => by rcases e with rfl | rfl | rfl | rfl <;> exact K _ (by decide) (by decide)), h.nlo, blk_keepT h.kd (K _ (by decide) (by decide)), blk_keepT h.kr (K _ (by decide) (by decide)), h.ks.imp id (fun e => blk_keepT e (K _ (by decide) (by decide)))⟩
theorem rnstep (h : PS w X dp dq dv dsv rp rv rsv ds es a m l k ra rav rq rlv rl t u bd br bs sc) {S : Nat → Prop} (hn : RNS Y w.heap.size ra rav' rq rlv' rl' u') (hS : ∀ i, S i → rnF ra rq rlv i) (f : Fr S X Y) : PS w Y dp dq dv dsv rp rv rsv ds es a m l k ra rav' rq rlv' rl' t u' bd br bs sc := by
 have f' : Fr (rnF ra rq rlv) X Y := f.mono hS
 have K := fun T hT => h.rn.kd.keep f' T hT
 exact ⟨⟨h.two.d.keepT (fun T e => by rcases e with rfl | rfl | rfl <;> exact K _ (by decide)), h.two.r.keepT (fun T e => by rcases e with rfl | rfl <;> exact K _ (by decide)), h.two.bel.trans (f'.below h.two.bel.size h.rn.low), h.two.dlo, h.two.rlo, h.two.ne⟩,
  h.ns.frK h.rn.kd (by decide) (by decide) f', hn, h.nlo, blk_keepT h.kd (K _ (by decide)), blk_keepT h.kr (K _ (by decide)), h.ks.imp id (fun e => blk_keepT e (K _ (by decide)))⟩
theorem dstep (h : PS w X dp dq dv dsv rp rv rsv ds es a m l k ra rav rq rlv rl t u bd br bs sc) (s : DStep X dp dq dv dsv Y dv' dsv' ds') : PS w Y dp dq dv' dsv' rp rv rsv ds' es a m l k ra rav rq rlv rl t u bd br bs sc := by
 have K := fun T hT => h.two.d.kd.keep s.fr T hT
 exact ⟨h.two.dstep s, h.ns.frK h.two.d.kd (by decide) (by decide) s.fr, h.rn.keepT' (fun T e => by rcases e with rfl | rfl | rfl | rfl <;> exact K _ (by decide)), h.nlo, blk_keepT h.kd (K _ (by decide)), blk_keepT h.kr (K _ (by decide)), h.ks.imp id (fun e => blk_keepT e (K _ (by decide)))⟩
theorem rstep (h : PS w X dp dq dv dsv rp rv rsv ds es a m l k ra rav rq rlv rl t u bd br bs sc) (s : RDStep X rp rv rsv Y rv' rsv' es') : PS w Y dp dq dv dsv rp rv' rsv' ds es' a m l k ra rav rq rlv rl t u bd br bs sc := by
 have kd : KdS X (S1 rp) (fun T => T = 147) := fun i e => by
  have e : i = rp := e
  subst e
  exact ⟨_, _, _, h.two.r.d, rfl⟩
 have K := fun T hT => kd.keep s.fr T hT
 exact ⟨h.two.rstep s, h.ns.frK kd (by decide) (by decide) s.fr, h.rn.keepT' (fun T e => by rcases e with rfl | rfl | rfl | rfl <;> exact K _ (by decide)), h.nlo, blk_keepT h.kd (K _ (by decide)), blk_keepT h.kr (K _ (by decide)), h.ks.imp id (fun e => blk_keepT e (K _ (by decide)))⟩
theorem box (h : PS w X dp dq dv dsv rp rv rsv ds es a m l k ra rav rq rlv rl t u bd br bs sc) (hs : sc.size ≠ 0) : Blk X bs 66 sc := h.ks.resolve_left hs
theorem nkeep (h : PS w X dp dq dv dsv rp rv rsv ds es a m l k ra rav rq rlv rl t u bd br bs sc) (f : Fr (nF a m l k) X Y) : KeepT 5 X Y := h.ns.keepT f _ (by decide) (by decide)
theorem rnkeep (h : PS w X dp dq dv dsv rp rv rsv ds es a m l k ra rav rq rlv rl t u bd br bs sc) {S : Nat → Prop} (hS : ∀ i, S i → rnF ra rq rlv i) (f : Fr S X Y) : KeepT 5 X Y := h.rn.kd.keep (f.mono hS) _ (by decide)
theorem next (h : PS w X dp dq dv dsv rp rv rsv ds es a m l k ra rav rq rlv rl t u bd br bs sc) (sc' : Array Value) : PS w (X.alloc (.cells sc' 66)) dp dq dv dsv rp rv rsv ds es a m l k ra rav rq rlv rl t u bd br X.heap.size sc' := by
 have g := h.below ((Below.refl _ X).alloc (Nat.le_refl _) (.cells sc' 66))
 exact ⟨g.two, g.ns, g.rn, g.nlo, g.kd, g.kr, .inr (Blk.new X _ _)⟩
end PS
end Go.Proofs.YtlfikhblmbidmaaGreatDoor