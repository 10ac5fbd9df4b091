import Derived.Test.YtlfikhblmbidmaaGreatDoorMrgN
set_option linter.all false
namespace Go.Proofs.YtlfikhblmbidmaaGreatDoor
open Go.RowKit Go.Maps
def KdS (X : World) (S : Nat → Prop) (ok : TypeId → Prop) : Prop := ∀ i, S i → ∃ cs T z, X.heap[i]? = some (.cells cs T z) ∧ ok T
theorem KdS.keep {X Y : World} {S : Nat → Prop} {ok : TypeId → Prop} (h : KdS X S ok) (k : Fr S X Y) (T : TypeId) (hT : ¬ ok T) : KeepT T X Y :=
 KeepT.of_fr k (fun i hi cs z e => by
  obtain ⟨cs', T', z', hc, ho⟩ := h i hi
  have := hc.symm.trans e
  simp only [Option.some.injEq, Obj.cells.injEq] at this
  exact hT (this.2.1 ▸ ho))
theorem KdS.ne {X : World} {S : Nat → Prop} {ok : TypeId → Prop} (h : KdS X S ok) {b : Nat} {T : TypeId} {cs : Array Value} (hb : Blk X b T cs) (hT : ¬ ok T) : ¬ S b := fun e => by
 obtain ⟨cs', T', z', hc, ho⟩ := h b e
 have := (show X.heap[b]? = _ from hb).symm.trans hc
 simp only [Option.some.injEq, Obj.cells.injEq] at this
 exact hT (this.2.1 ▸ ho)
theorem KdS.neM {X : World} {S : Nat → Prop} {ok : TypeId → Prop} (h : KdS X S ok) {b : Nat} (hb : ∃ es c, X.heap[b]? = some (.map es c)) : ¬ S b := fun e => by
 obtain ⟨cs', T', z', hc, _⟩ := h b e
 obtain ⟨es, c, hm⟩ := hb
 have := hm.symm.trans hc
 simp at this
theorem NS.frK {X Y : World} {a m l k : Nat} {t : NSt} {S : Nat → Prop} {ok : TypeId → Prop} (h : NS X a m l k t) (hS : KdS X S ok) (h1 : ¬ ok 164) (h2 : ¬ ok 169) (k' : Fr S X Y) : NS Y a m l k t := by
 have m1 := hS.neM h.a.at_.map.block
 have m2 := hS.neM h.l.at_.map.block
 have p1 := hS.ne h.a.at_.blk h1
 have p2 := hS.ne h.l.at_.blk h2
 exact ⟨h.a.fr k' p1 m1, ⟨h.l.at_.fr k' (fun i e => by rcases e with rfl | rfl; exact p2; exact m2), h.l.good⟩, h.ne⟩
theorem LRow.keepT {X Y : World} {v : Value} {bs : List UInt8} (h : LRow X v bs) (k : KeepT 5 X Y) : LRow Y v bs := by
 rcases h with h | ⟨g, cap, cur, rfl, hg, r⟩
 ·exact .inl h
 ·exact .inr ⟨g, cap, cur, rfl, (k g cur (0, 0) hg).trans hg, r⟩
theorem blk_keepT {X Y : World} {b : Nat} {T : TypeId} {cs : Array Value} (h : Blk X b T cs) (k : KeepT T X Y) : Blk Y b T cs := (k b cs (0, 0) h).trans h
theorem DiskAt.keepT {X Y : World} {p q : Nat} {v sv : Value} {s : DSt} (h : DiskAt X p q v sv s) (k : ∀ T, T = 109 ∨ T = 107 ∨ T = 5 → KeepT T X Y) : DiskAt Y p q v sv s :=
 ⟨blk_keepT h.d (k _ (.inl rfl)), blk_keepT h.l (k _ (.inr (.inl rfl))), h.row.keepT (k _ (.inr (.inr rfl))), h.srow.keepT (k _ (.inr (.inr rfl))), h.ne⟩
theorem RDk.keepT {X Y : World} {p : Nat} {v sv : Value} {s : DSt} (h : RDk X p v sv s) (k : ∀ T, T = 147 ∨ T = 5 → KeepT T X Y) : RDk Y p v sv s :=
 ⟨blk_keepT h.d (k _ (.inl rfl)), h.row.keepT (k _ (.inr rfl)), h.srow.keepT (k _ (.inr rfl))⟩
theorem RNS.keepT' {X Y : World} {lo a q : Nat} {av lv : Value} {l : VL} {t : NSt} (h : RNS X lo a av q lv l t) (k : ∀ T, T = 166 ∨ T = 128 ∨ T = 172 ∨ T = 174 → KeepT T X Y) : RNS Y lo a av q lv l t :=
 ⟨⟨blk_keepT h.ac.blk (k _ (.inl rfl)), KeepT.row (k _ (.inr (.inl rfl))) h.ac.row, h.ac.good⟩, ⟨blk_keepT h.lg.blk (k _ (.inr (.inr (.inl rfl)))), KeepT.row (k _ (.inr (.inr (.inr rfl)))) h.lg.row, h.lg.perm, h.lg.good⟩, h.la, h.lq, h.ll⟩
theorem RNS.kd {X : World} {lo a q : Nat} {av lv : Value} {l : VL} {t : NSt} (h : RNS X lo a av q lv l t) : KdS X (rnF a q lv) (fun T => T = 166 ∨ T = 172 ∨ T = 174) := fun i e => by
 rcases e with rfl | rfl | e
 ·exact ⟨_, _, _, h.ac.blk, .inl rfl⟩
 ·exact ⟨_, _, _, h.lg.blk, .inr (.inl rfl)⟩
 ·obtain ⟨cur, hc⟩ := row_blk h.lg.row i e
  exact ⟨_, _, _, hc, .inr (.inr rfl)⟩
theorem DiskAt.kd {X : World} {p q : Nat} {v sv : Value} {s : DSt} (h : DiskAt X p q v sv s) : KdS X (dF p q v sv) (fun T => T = 109 ∨ T = 107 ∨ T = 5) := fun i e => by
 obtain ⟨cs, z, T, hc, ho⟩ := dF_kind h e
 exact ⟨cs, T, z, hc, ho⟩
end Go.Proofs.YtlfikhblmbidmaaGreatDoor