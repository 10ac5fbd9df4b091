import Derived.Test.YtlfikhblmbidmaaGreatDoorPlyB
import Derived.Test.YtlfikhblmbidmaaGreatDoorPlyP
set_option linter.all false
namespace Go.Proofs.YtlfikhblmbidmaaGreatDoor
open Go.RowKit Go.Maps
structure P2 (n : Int) (w X : World) (dp dq rp a m l k ra rq bd br bs : Nat) (sc : Array Value) (pv : Value) (pb : List UInt8) (qv : Value) (qb : List UInt8) (ds : DSt) (t u : NSt) : Prop where
 ex : ∃ dv dsv rv rsv rav rlv rl, PS w X dp dq dv dsv rp rv rsv ds ds a m l k ra rav rq rlv rl t u bd br bs sc ∧ LRow X pv pb ∧ LRow X qv qb ∧ ∀ i, qv.ownBlock = some i → ¬ dF dp dq dv dsv i
namespace P2
variable {n : Int} {w X Y : World} {dp dq rp a m l k ra rq bd br bs : Nat} {ds : DSt} {t u : NSt} {sc : Array Value} {pv qv : Value} {pb qb : List UInt8}
theorem below (h : P2 n w X dp dq rp a m l k ra rq bd br bs sc pv pb qv qb ds t u) (b : Below X.heap.size X Y) : P2 n w Y dp dq rp a m l k ra rq bd br bs sc pv pb qv qb ds t u := by
 obtain ⟨dv, dsv, rv, rsv, rav, rlv, rl, h, hp, hq, hqd⟩ := h.ex
 exact ⟨_, _, _, _, _, _, _, h.below b, hp.below_ b, hq.below_ b, hqd⟩
theorem hbx (sc' : Array Value) : Below X.heap.size X (X.alloc (.cells sc' 66)) := (Below.refl _ X).alloc (Nat.le_refl _) _
theorem next (h : P2 n w X dp dq rp a m l k ra rq bd br bs sc pv pb qv qb ds t u) (sc' : Array Value) : P2 n w (X.alloc (.cells sc' 66)) dp dq rp a m l k ra rq bd br X.heap.size sc' pv pb qv qb ds t u := by
 obtain ⟨dv, dsv, rv, rsv, rav, rlv, rl, h, hp, hq, hqd⟩ := h.ex
 exact ⟨_, _, _, _, _, _, _, h.next sc', hp.below_ (hbx sc'), hq.below_ (hbx sc'), hqd⟩
theorem box (h : P2 n w X dp dq rp a m l k ra rq bd br bs sc pv pb qv qb ds t u) (hs : sc.size ≠ 0) : Blk X bs 66 sc := by
 obtain ⟨dv, dsv, rv, rsv, rav, rlv, rl, h, hp, hq, hqd⟩ := h.ex
 exact h.box hs
theorem cd (h : P2 n w X dp dq rp a m l k ra rq bd br bs sc pv pb qv qb ds t u) : X.cell? ⟨bd, 0, none⟩ = some (.pointer (some ⟨dp, 0, none⟩)) := by
 obtain ⟨dv, dsv, rv, rsv, rav, rlv, rl, h, hp, hq, hqd⟩ := h.ex
 exact h.kd.cell (i := 0) rfl
theorem cr (h : P2 n w X dp dq rp a m l k ra rq bd br bs sc pv pb qv qb ds t u) : X.cell? ⟨br, 0, none⟩ = some (.pointer (some ⟨rp, 0, none⟩)) := by
 obtain ⟨dv, dsv, rv, rsv, rav, rlv, rl, h, hp, hq, hqd⟩ := h.ex
 exact h.kr.cell (i := 0) rfl
theorem bel (h : P2 n w X dp dq rp a m l k ra rq bd br bs sc pv pb qv qb ds t u) : Below w.heap.size w X := by
 obtain ⟨dv, dsv, rv, rsv, rav, rlv, rl, h, hp, hq, hqd⟩ := h.ex
 exact h.two.bel
theorem good (h : P2 n w X dp dq rp a m l k ra rq bd br bs sc pv pb qv qb ds t u) : AGood t.a ∧ LGood t.l := by
 obtain ⟨dv, dsv, rv, rsv, rav, rlv, rl, h, hp, hq, hqd⟩ := h.ex
 exact ⟨h.ns.a.good, h.ns.l.good⟩
theorem aprom (h : P2 n w X dp dq rp a m l k ra rq bd br bs sc pv pb qv qb ds t u) (r d z : Int) : Calls Tryz.prog 38 #[.pointer (some ⟨a, 0, none⟩), balV r d, .int .i64 z] X fun e Y =>
  ∃ v, e = .returned (.tuple #[v, .int .i64 (prE t.a r d z)]) ∧ P2 n w Y dp dq rp a m l k ra rq bd br bs sc pv pb qv qb ds ⟨prS t.a r d z, t.l⟩ u := by
 obtain ⟨dv, dsv, rv, rsv, rav, rlv, rl, h, hp, hq, hqd⟩ := h.ex
 refine (promise_S a m t.a _ r d z h.ns.a).mono ?_
 rintro e Y ⟨v, rfl, _, ha, hf⟩
 have hk := h.nkeep (hf.mono (fun i e => .inl e))
 exact ⟨v, rfl, _, _, _, _, _, _, _, h.nstep (h.ns.withA ha hf (fun i e => .inl e)) (hf.mono (fun i e => .inl e)), hp.keepT hk, hq.keepT hk, hqd⟩
theorem bprom (h : P2 n w X dp dq rp a m l k ra rq bd br bs sc pv pb qv qb ds t u) (r d z : Int) : Calls Tryz.prog 39 #[.pointer (some ⟨ra, 0, none⟩), balV r d, .int .i64 z] X fun e Y =>
  ∃ v, e = .returned (.tuple #[v, .int .i64 (prE u.a r d z)]) ∧ P2 n w Y dp dq rp a m l k ra rq bd br bs sc pv pb qv qb ds t ⟨prS u.a r d z, u.l⟩ := by
 obtain ⟨dv, dsv, rv, rsv, rav, rlv, rl, h, hp, hq, hqd⟩ := h.ex
 refine (rpromise_any r d z h.rn.ac).mono ?_
 rintro e Y ⟨v, rfl, av', ha, hf⟩
 have hk := h.rnkeep (fun i e => .inl e) hf
 exact ⟨v, rfl, _, _, _, _, _, _, _, h.rnstep (h.rn.withA ha hf) (fun i e => .inl e) hf, hp.keepT hk, hq.keepT hk, hqd⟩
theorem aacc (h : P2 n w X dp dq rp a m l k ra rq bd br bs sc pv pb qv qb ds t u) (r d z : Int) (x : ByteArray) : Calls Tryz.prog 40 #[.pointer (some ⟨a, 0, none⟩), balV r d, .int .i64 z, .string x] X fun e Y =>
  e = .returned (.int .i64 (acE t.a r d z x)) ∧ P2 n w Y dp dq rp a m l k ra rq bd br bs sc pv pb qv qb ds ⟨acS t.a r d z x, t.l⟩ u := by
 obtain ⟨dv, dsv, rv, rsv, rav, rlv, rl, h, hp, hq, hqd⟩ := h.ex
 refine (accept_S a m t.a _ r d z x h.ns.a).mono ?_
 rintro e Y ⟨rfl, ha, hf⟩
 have hk := h.nkeep (hf.mono (fun i e => e.elim .inl (fun e => .inr (.inl e))))
 exact ⟨rfl, _, _, _, _, _, _, _, h.nstep (h.ns.withA ha hf (fun i e => e)) (hf.mono (fun i e => e.elim .inl (fun e => .inr (.inl e)))), hp.keepT hk, hq.keepT hk, hqd⟩
theorem bacc (h : P2 n w X dp dq rp a m l k ra rq bd br bs sc pv pb qv qb ds t u) (r d z : Int) (x : ByteArray) : Calls Tryz.prog 41 #[.pointer (some ⟨ra, 0, none⟩), balV r d, .int .i64 z, .string x] X fun e Y =>
  e = .returned (.int .i64 (acE u.a r d z x)) ∧ P2 n w Y dp dq rp a m l k ra rq bd br bs sc pv pb qv qb ds t ⟨acS u.a r d z x, u.l⟩ := by
 obtain ⟨dv, dsv, rv, rsv, rav, rlv, rl, h, hp, hq, hqd⟩ := h.ex
 refine (raccept_any r d z x h.rn.ac).mono ?_
 rintro e Y ⟨rfl, av', ha, hf⟩
 have hk := h.rnkeep (fun i e => .inl e) hf
 exact ⟨rfl, _, _, _, _, _, _, _, h.rnstep (h.rn.withA ha hf) (fun i e => .inl e) hf, hp.keepT hk, hq.keepT hk, hqd⟩
theorem aput (h : P2 n w X dp dq rp a m l k ra rq bd br bs sc pv pb qv qb ds t u) (z : Int) (x : ByteArray) : Calls Tryz.prog 42 #[.pointer (some ⟨l, 0, none⟩), .int .i64 z, .string x] X fun e Y =>
  e = .returned (.int .i64 (lputE t.l z x)) ∧ P2 n w Y dp dq rp a m l k ra rq bd br bs sc pv pb qv qb ds ⟨t.a, lputS t.l z x⟩ u := by
 obtain ⟨dv, dsv, rv, rsv, rav, rlv, rl, h, hp, hq, hqd⟩ := h.ex
 refine (lput_any z x h.ns.l).mono ?_
 rintro e Y ⟨rfl, hl, hf⟩
 have hk := h.nkeep (hf.mono (fun i e => e.elim (fun e => .inr (.inr (.inl e))) (fun e => .inr (.inr (.inr e)))))
 exact ⟨rfl, _, _, _, _, _, _, _, h.nstep (h.ns.withL hl hf) (hf.mono (fun i e => e.elim (fun e => .inr (.inr (.inl e))) (fun e => .inr (.inr (.inr e))))), hp.keepT hk, hq.keepT hk, hqd⟩
theorem bput (h : P2 n w X dp dq rp a m l k ra rq bd br bs sc pv pb qv qb ds t u) (z : Int) (x : ByteArray) : Calls Tryz.prog 43 #[.pointer (some ⟨rq, 0, none⟩), .int .i64 z, .string x] X fun e Y =>
  e = .returned (.int .i64 (lputE u.l z x)) ∧ P2 n w Y dp dq rp a m l k ra rq bd br bs sc pv pb qv qb ds t ⟨u.a, lputS u.l z x⟩ := by
 obtain ⟨dv, dsv, rv, rsv, rav, rlv, rl, h, hp, hq, hqd⟩ := h.ex
 refine (rlput_any z x h.rn.lg).mono ?_
 rintro e Y ⟨rfl, lv', l', hs⟩
 have hk := h.rnkeep (fun i e => .inr e) hs.fr
 exact ⟨rfl, _, _, _, _, _, _, _, h.rnstep (h.rn.withL h.two.bel.size hs) (fun i e => .inr e) hs.fr, hp.keepT hk, hq.keepT hk, hqd⟩
theorem afor (h : P2 n w X dp dq rp a m l k ra rq bd br bs sc pv pb qv qb ds t u) (z : Int) : Calls Tryz.prog 44 #[.pointer (some ⟨a, 0, none⟩), .int .i64 z] X fun e Y =>
  e = .returned (.int .i64 (foE z)) ∧ P2 n w Y dp dq rp a m l k ra rq bd br bs sc pv pb qv qb ds ⟨foS t.a z, t.l⟩ u := by
 obtain ⟨dv, dsv, rv, rsv, rav, rlv, rl, h, hp, hq, hqd⟩ := h.ex
 refine (forget_S a m t.a _ z h.ns.a).mono ?_
 rintro e Y ⟨rfl, ha, hf⟩
 have hk := h.nkeep (hf.mono (fun i e => e.elim .inl (fun e => .inr (.inl e))))
 exact ⟨rfl, _, _, _, _, _, _, _, h.nstep (h.ns.withA ha hf (fun i e => e)) (hf.mono (fun i e => e.elim .inl (fun e => .inr (.inl e)))), hp.keepT hk, hq.keepT hk, hqd⟩
theorem bfor (h : P2 n w X dp dq rp a m l k ra rq bd br bs sc pv pb qv qb ds t u) (z : Int) : Calls Tryz.prog 45 #[.pointer (some ⟨ra, 0, none⟩), .int .i64 z] X fun e Y =>
  e = .returned (.int .i64 (foE z)) ∧ P2 n w Y dp dq rp a m l k ra rq bd br bs sc pv pb qv qb ds t ⟨foS u.a z, u.l⟩ := by
 obtain ⟨dv, dsv, rv, rsv, rav, rlv, rl, h, hp, hq, hqd⟩ := h.ex
 refine (rforget_any ra rav u.a z _ h.rn.ac).mono ?_
 rintro e Y ⟨av', rfl, ha, hf⟩
 have hk := h.rnkeep (fun i e => .inl e) hf
 exact ⟨rfl, _, _, _, _, _, _, _, h.rnstep (h.rn.withA ha hf) (fun i e => .inl e) hf, hp.keepT hk, hq.keepT hk, hqd⟩
theorem aforL (h : P2 n w X dp dq rp a m l k ra rq bd br bs sc pv pb qv qb ds t u) (z : Int) : Calls Tryz.prog 46 #[.pointer (some ⟨l, 0, none⟩), .int .i64 z] X fun e Y =>
  e = .returned (.int .i64 (lforE t.l z)) ∧ P2 n w Y dp dq rp a m l k ra rq bd br bs sc pv pb qv qb ds ⟨t.a, lforS t.l z⟩ u := by
 obtain ⟨dv, dsv, rv, rsv, rav, rlv, rl, h, hp, hq, hqd⟩ := h.ex
 refine (lfor_any z h.ns.l).mono ?_
 rintro e Y ⟨rfl, hl, hf⟩
 have hk := h.nkeep (hf.mono (fun i e => e.elim (fun e => .inr (.inr (.inl e))) (fun e => .inr (.inr (.inr e)))))
 exact ⟨rfl, _, _, _, _, _, _, _, h.nstep (h.ns.withL hl hf) (hf.mono (fun i e => e.elim (fun e => .inr (.inr (.inl e))) (fun e => .inr (.inr (.inr e))))), hp.keepT hk, hq.keepT hk, hqd⟩
theorem bforL (h : P2 n w X dp dq rp a m l k ra rq bd br bs sc pv pb qv qb ds t u) (z : Int) : Calls Tryz.prog 47 #[.pointer (some ⟨rq, 0, none⟩), .int .i64 z] X fun e Y =>
  e = .returned (.int .i64 (lforE u.l z)) ∧ P2 n w Y dp dq rp a m l k ra rq bd br bs sc pv pb qv qb ds t ⟨u.a, lforS u.l z⟩ := by
 obtain ⟨dv, dsv, rv, rsv, rav, rlv, rl, h, hp, hq, hqd⟩ := h.ex
 refine (rlfor_any z h.rn.lg).mono ?_
 rintro e Y ⟨rfl, lv', l', hs⟩
 have hk := h.rnkeep (fun i e => .inr e) hs.fr
 exact ⟨rfl, _, _, _, _, _, _, _, h.rnstep (h.rn.withL h.two.bel.size hs) (fun i e => .inr e) hs.fr, hp.keepT hk, hq.keepT hk, hqd⟩
theorem alike (h : P2 n w X dp dq rp a m l k ra rq bd br bs sc pv pb qv qb ds t t) :
  Calls Tryz.prog 35 #[.pointer (some ⟨a, 0, none⟩), .pointer (some ⟨l, 0, none⟩), .pointer (some ⟨ra, 0, none⟩), .pointer (some ⟨rq, 0, none⟩)] X fun e Y => e = .returned (.bool true) ∧ P2 n w Y dp dq rp a m l k ra rq bd br bs sc pv pb qv qb ds t t := by
 obtain ⟨dv, dsv, rv, rsv, rav, rlv, rl, h, hp, hq, hqd⟩ := h.ex
 refine (alike_any h.ns h.rn).mono ?_
 rintro e Y ⟨rfl, hb⟩
 exact ⟨rfl, _, _, _, _, _, _, _, h.below hb, hp.below_ hb, hq.below_ hb, hqd⟩
theorem dlen (h : P2 n w X dp dq rp a m l k ra rq bd br bs sc pv pb qv qb ds t u) : Calls Tryz.prog 33 #[.pointer (some ⟨dp, 0, none⟩)] X fun e Y => e = .returned (.int .i64 (ds.b.length : Int)) ∧ X = Y := by
 obtain ⟨dv, dsv, rv, rsv, rav, rlv, rl, h, hp, hq, hqd⟩ := h.ex
 exact dlen_any h.two.d
theorem rlen (h : P2 n w X dp dq rp a m l k ra rq bd br bs sc pv pb qv qb ds t u) : Calls Tryz.prog 34 #[.pointer (some ⟨rp, 0, none⟩)] X fun e Y => e = .returned (.int .i64 (ds.b.length : Int)) ∧ X = Y := by
 obtain ⟨dv, dsv, rv, rsv, rav, rlv, rl, h, hp, hq, hqd⟩ := h.ex
 exact rdlen_any h.two.r
theorem dsafe (h : P2 n w X dp dq rp a m l k ra rq bd br bs sc pv pb qv qb ds t u) : Calls Tryz.prog 30 #[.pointer (some ⟨dp, 0, none⟩)] X fun e Y => e = .returned (.int .i64 (ds.safe : Int)) ∧ X = Y := by
 obtain ⟨dv, dsv, rv, rsv, rav, rlv, rl, h, hp, hq, hqd⟩ := h.ex
 exact dsafe_any h.two.d
theorem rsafe (h : P2 n w X dp dq rp a m l k ra rq bd br bs sc pv pb qv qb ds t u) : Calls Tryz.prog 31 #[.pointer (some ⟨rp, 0, none⟩)] X fun e Y => e = .returned (.int .i64 (ds.safe : Int)) ∧ X = Y := by
 obtain ⟨dv, dsv, rv, rsv, rav, rlv, rl, h, hp, hq, hqd⟩ := h.ex
 exact rdsafe_any h.two.r
theorem pget (h : P2 n w X dp dq rp a m l k ra rq bd br bs sc pv pb qv qb ds t u) {ok : Bool} {b : List UInt8} {e : Ending} (hp : PostB X ok b e Y) : ∃ vo, e = .returned (.tuple #[vo, .int .i64 (outE ok b)]) ∧ P2 n w Y dp dq rp a m l k ra rq bd br bs sc vo (outB ok b) qv qb ds t u := by
 obtain ⟨dv, dsv, rv, rsv, rav, rlv, rl, h, _, hq, hqd⟩ := h.ex
 obtain ⟨vo, rfl, h1, h2, h3⟩ := hp
 exact ⟨vo, rfl, _, _, _, _, _, _, _, h.below h2, h1, hq.below_ h2, hqd⟩
theorem qget (h : P2 n w X dp dq rp a m l k ra rq bd br bs sc pv pb qv qb ds t u) {ok : Bool} {b : List UInt8} {e : Ending} (hp : PostB X ok b e Y) : ∃ vo, e = .returned (.tuple #[vo, .int .i64 (outE ok b)]) ∧ P2 n w Y dp dq rp a m l k ra rq bd br bs sc pv pb vo (outB ok b) ds t u := by
 obtain ⟨dv, dsv, rv, rsv, rav, rlv, rl, h, hp', _, hqd⟩ := h.ex
 obtain ⟨vo, rfl, h1, h2, h3⟩ := hp
 exact ⟨vo, rfl, _, _, _, _, _, _, _, h.below h2, hp'.below_ h2, h1, fun i e k => by have h4 := h3 i e; have h5 := h.two.d.lt k; omega⟩
theorem wr (h : P2 n w X dp dq rp a m l k ra rq bd br bs sc pv pb qv pb ds t u) (hF : FoursAt w) (hd : DI n ds) {E : Int} (hl : pb.length ≤ 65536) (hf : ds.b.length + 8 + pb.length ≤ 16777216) :
  Calls Tryz.prog 37 #[pv, .int .i64 E, qv, .int .i64 E, .pointer (some ⟨bd, 0, none⟩), .pointer (some ⟨br, 0, none⟩)] X fun e Y => e = .returned (.bool true) ∧
   P2 n w Y dp dq rp a m l k ra rq bd br bs sc (.slice none 0 0) [] (.slice none 0 0) [] (if E = 0 then wrD ds pb else ds) t u := by
 obtain ⟨dv, dsv, rv, rsv, rav, rlv, rl, h, hp, hq, hqd⟩ := h.ex
 refine (wr_any h hF hd.1 hp hq hqd (fun _ => ⟨hl, hf⟩) hl).mono ?_
 rintro e Y ⟨rfl, dv', rv', h'⟩
 exact ⟨rfl, _, _, _, _, _, _, _, h', LRow.nil _, LRow.nil _, fun i e => by cases e⟩
theorem dapp (h : P2 n w X dp dq rp a m l k ra rq bd br bs sc pv pb qv qb ds t u) (hF : FoursAt w) (hd : DI n ds) (hl : pb.length ≤ 65536) (hf : ds.b.length + 8 + pb.length ≤ 16777216) :
  Calls Tryz.prog 49 #[.pointer (some ⟨dp, 0, none⟩), pv] X fun e Y => e = .returned (.int .i64 0) ∧ ∃ dv dsv rv rsv rav rlv rl, PS w Y dp dq dv dsv rp rv rsv { ds with b := ds.b ++ frameB pb } ds a m l k ra rav rq rlv rl t u bd br bs sc ∧ LRow Y qv qb := by
 obtain ⟨dv, dsv, rv, rsv, rav, rlv, rl, h, hp, hq, hqd⟩ := h.ex
 refine (dapp_yes _ pb h.two.d hd.1 (hF.below h.two.bel) (LRow.bsIn hp) hl hf).mono ?_
 rintro e Y ⟨rfl, dv', hs⟩
 exact ⟨rfl, _, _, _, _, _, _, _, h.dstep hs, hq.fr hs.fr hqd⟩
end P2
theorem DI.new (n : Int) : DI n newD := ⟨DGood.new, fun h => by cases h⟩
theorem DI.wr {n : Int} {ds : DSt} {b : List UInt8} (h : DI n ds) (hf : ds.b.length + 8 + b.length ≤ 16777216) : DI n (wrD ds b) :=
 ⟨⟨Nat.le_refl _, by show (ds.b ++ frameB b).length ≤ _; rw [List.length_append, frameB_length]; omega, h.1.st⟩, h.2⟩
theorem DI.app {n : Int} {ds : DSt} {b : List UInt8} (h : DI n ds) (hf : ds.b.length + 8 + b.length ≤ 16777216) : DI n { ds with b := ds.b ++ frameB b } :=
 ⟨⟨by show ds.safe ≤ (ds.b ++ frameB b).length; have := h.1.safe; rw [List.length_append]; omega, by show (ds.b ++ frameB b).length ≤ _; rw [List.length_append, frameB_length]; omega, h.1.st⟩, h.2⟩
theorem DI.snap {n : Int} {t : NSt} {B : Nat} (ha : AGood t.a) (hl : LGood t.l) (hv : Vi n t B) (hs : (snapB t).length ≤ 65536) : DI n ⟨[], 0, snapB t, true⟩ :=
 ⟨⟨Nat.le_refl _, by simp, hs⟩, fun _ => ⟨t, rfl, ha, hl, hv.n, hv.v⟩⟩
theorem DI.torn {n : Int} {ds : DSt} (h : DI n ds) (left : Int) : DI n (tornD ds left) ∧ (tornD ds left).b.length ≤ ds.b.length := by
 have hl : (ds.b.take (allF (ds.b.take (ds.safe + keptN ds left))).2).length ≤ ds.b.length := by rw [List.length_take]; omega
 have h2 := allF_le _ (ds.b.take (ds.safe + keptN ds left)) (Nat.le_refl _)
 rw [List.length_take] at h2
 have := h.1.most
 exact ⟨⟨⟨by show (allF (ds.b.take (ds.safe + keptN ds left))).2 ≤ (ds.b.take (allF (ds.b.take (ds.safe + keptN ds left))).2).length; rw [List.length_take]; omega, by show (ds.b.take _).length ≤ _; omega, h.1.st⟩, h.2⟩, hl⟩
end Go.Proofs.YtlfikhblmbidmaaGreatDoor