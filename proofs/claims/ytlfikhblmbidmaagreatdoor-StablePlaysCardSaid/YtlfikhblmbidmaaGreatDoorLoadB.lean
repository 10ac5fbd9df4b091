import Derived.Test.YtlfikhblmbidmaaGreatDoorLoadA
set_option linter.all false
namespace Go.Proofs.YtlfikhblmbidmaaGreatDoor
open Go.RowKit Go.Maps
theorem rdEt_no1 {s : Rd} (h : rdN 4095 s = none) : rdEt s = none := by unfold rdEt; rw [h]; rfl
theorem rdEt_no2 {s s1 : Rd} {a : Nat} (h : rdN 4095 s = some (a, s1)) (h2 : rdB s1 = none) : rdEt s = none := by
 unfold rdEt; rw [h]; show (rdB s1).bind _ = none; rw [h2]; rfl
theorem rdEt_yes {s s1 s2 : Rd} {a b c : Nat} (h : rdN 4095 s = some (a, s1)) (h2 : rdB s1 = some ((b, c), s2)) : rdEt s = some (⟨(a : Int), (b : Int), (c : Int), sB (rdT s2).1⟩, (rdT s2).2) := by
 unfold rdEt; rw [h]; show (rdB s1).bind _ = _; rw [h2]; rfl
section
variable {n : Int} {pr : Nat × Nat} {k : Nat} {last : Int} {s s' : Rd} {D : List Et} {x : Et}
def entR (n : Int) (pr : Nat × Nat) (k : Nat) (last : Int) (s : Rd) (D : List Et) : Option (List Et × Rd) := (entP n pr k last s).map fun t => (D ++ t.1, t.2)
theorem entR_start : entR n pr k last s [] = entP n pr k last s := by
 unfold entR
 cases entP n pr k last s <;> simp
theorem entR_end : entR n pr 0 last s D = some (D, s) := by simp [entR, entP]
theorem entR_none (h : rdEt s = none) : entR n pr (k + 1) last s D = none := by simp [entR, entP, h]
theorem entR_bad (h : rdEt s = some (x, s')) (hb : ¬ entOk n pr last x) : entR n pr (k + 1) last s D = none := by simp [entR, entP, h, hb]
theorem entR_step (h : rdEt s = some (x, s')) (hb : entOk n pr last x) : entR n pr (k + 1) last s D = entR n pr k x.sl s' (D ++ [x]) := by
 simp only [entR, entP, h, Option.bind_some, if_pos hb, Option.map_map]
 congr 1
 funext t
 simp
def hasR (k : Nat) (last : Int) (s : Rd) (D : VL) : Option (VL × Rd) := (hasP k last s).map fun t => (D ++ t.1, t.2)
variable {E : VL}
theorem hasR_start : hasR k last s [] = hasP k last s := by
 unfold hasR
 cases hasP k last s <;> simp
theorem hasR_end : hasR 0 last s E = some (E, s) := by simp [hasR, hasP]
theorem hasR_none (h : rdN 4095 s = none) : hasR (k + 1) last s E = none := by simp [hasR, hasP, h]
theorem hasR_bad {a : Nat} (h : rdN 4095 s = some (a, s')) (hb : ¬ last < (a : Int)) : hasR (k + 1) last s E = none := by simp [hasR, hasP, h, hb]
theorem hasR_step {a : Nat} (h : rdN 4095 s = some (a, s')) (hb : last < (a : Int)) : hasR (k + 1) last s E = hasR k (a : Int) (rdT s').2 (E ++ [((a : Int), sB (rdT s').1)]) := by
 simp only [hasR, hasP, h, Option.bind_some, if_pos hb, Option.map_map]
 congr 1
 funext t
 simp
theorem lpF_snoc : ∀ (l : VL) (t : LogSt) (x : Int × ByteArray), lpF t (l ++ [x]) = (lpF t l).bind fun u => lpF u [x]
 | [], t, x => rfl
 | y :: r, t, x => by
  simp only [List.cons_append, lpF]
  split
  ·exact lpF_snoc r _ x
  ·rfl
end
abbrev zEt : Et := ⟨0, 0, 0, ⟨#[]⟩⟩
theorem made_ents (k : Nat) : (madeCells (etV zEt).cells (k * 4)).toList = flat encEt (List.replicate k zEt) := by
 have hl := flat_length (enc := encEt) (k := 4) evl (List.replicate k zEt)
 rw [List.length_replicate] at hl
 refine List.ext_getElem? fun t => ?_
 by_cases ht : t < k * 4
 ·have hd : t / 4 * 4 + t % 4 = t := by omega
  have h1 := flat_at (enc := encEt) (k := 4) evl (List.replicate k zEt) (t / 4) zEt (by rw [List.getElem?_replicate]; rw [if_pos (by omega)]) (t % 4) (by omega)
  rw [hd] at h1
  rw [h1]
  simp only [madeCells, Array.toList_map, Array.toList_range, List.getElem?_map, List.getElem?_range ht, Option.map_some]
  have h4 : t % 4 < 4 := by omega
  have hc : (etV zEt).cells = #[.int .i64 0, .int .i64 0, .int .i64 0, .string ⟨#[]⟩] := rfl
  rw [hc]
  rcases (show t % 4 = 0 ∨ t % 4 = 1 ∨ t % 4 = 2 ∨ t % 4 = 3 by omega) with h | h | h | h <;> simp [h, encEt]
 ·rw [List.getElem?_eq_none (by simp [madeCells]; omega), List.getElem?_eq_none (by omega)]
theorem mkEnt (k : Nat) (hk : k ≤ 4096) : ∃ MC : Array Value, (∀ W : World, (Instr.makeSlice 67 (.int .i64 (k : Int)) (.int .i64 (k : Int))).run Tryz.prog W = .ok (.slice (some ⟨W.heap.size, 0, none⟩) k k) (W.alloc (.cells MC 128))) ∧
  ∀ W : World, RowE encEt (W.alloc (.cells MC 128)) W.heap.size (List.replicate k zEt) := by
 obtain ⟨i0, hi, hz0, hz1, hz2⟩ := info_parts info_ent
 refine ⟨madeCells (etV zEt).cells (k * 4), fun W => ?_, fun W => ?_⟩
 ·have h1 := run_makeSlice W 67 128 i0 (etV zEt) Tryz.underlying67 hi hz0 .i64 .i64 (k : Int) (k : Int) (by omega) (Int.le_refl _) (by rw [hz1, Int.toNat_natCast]; omega) (by rw [hz2]; omega) (by omega)
  rw [h1, hz1, Int.toNat_natCast]
 ·have hB := Blk.new W 128 (madeCells (etV zEt).cells (k * 4))
  refine ⟨hB.lt, fun t u hu => hB.cell ?_, fun t => hB.frozen t⟩
  rw [← made_ents] at hu
  rw [← Array.getElem?_toList]
  exact hu
theorem goodB_pos {n r d : Int} (h : goodB n r d = true) : 1 ≤ r := by
 unfold goodB chkE at h
 simp only [Bool.and_eq_true, Bool.not_eq_true', Bool.and_eq_false_iff, beq_eq_false_iff_ne, beq_iff_eq] at h
 obtain ⟨h3, h4⟩ := h
 split at h4
 ·cases h4
 ·split at h4
  ·rename_i k; omega
  ·split at h4
   ·cases h4
   ·omega
theorem ents_zero {n last : Int} {D R : List Et} (h : EntsOk n (0, 0) last D) (hR : Srtd D R) : R = [] := by
 have hD : D = [] := by
  refine List.eq_nil_iff_forall_not_mem.2 fun x hx => ?_
  have h1 := goodB_pos (h.good x hx)
  have h2 := h.le x hx
  have h3 := (leBal_iff _ _).1 (show leBal (x.r, x.d) (((0 : Nat) : Int), ((0 : Nat) : Int)) from h2)
  have h3 : x.r < 0 ∨ x.r = 0 ∧ x.d ≤ 0 := h3
  omega
 subst hD
 exact List.perm_nil.1 hR.1.perm.symm
structure LpK (t : LogSt) (last : Int) : Prop where
 base : t.base ≤ last + 1
 keys : ∀ p ∈ t.L, p.1 ≤ last
theorem LpK.start {c : Nat} (h : c ≤ 4096) : LpK (ljmpS newLog (c : Int)) ((c : Int) - 1) := by
 have e : ljmpS newLog (c : Int) = lcut newLog (c : Int) := by unfold ljmpS; rw [if_pos (ljmp_new h)]
 rw [e]
 refine ⟨by show (c : Int) ≤ (c : Int) - 1 + 1; omega, fun p hp => ?_⟩
 have hp : p ∈ (newLog.L.filter fun p => !decide (p.1 < (c : Int))) := hp
 simp [newLog] at hp
theorem LpK.step {t : LogSt} {last k : Int} {v : ByteArray} (h : LpK t last) (hk : last < k) (h0 : 0 ≤ k) (h1 : k ≤ 4095) (hv : v.size ≤ 65536) : lputE t k v = 0 ∧ LpK (lputS t k v) k := by
 have he : lputE t k v = 0 := lputE_zero.2 ⟨h0, by omega, hv, by have := h.base; omega, fun e => by
  have : get k t.L = none := get_none.2 fun p hp => by have := h.keys p hp; omega
  rw [this] at e; cases e⟩
 obtain ⟨e1, e2⟩ := lputS_zero he
 refine ⟨he, by rw [e1]; have := h.base; omega, fun p hp => ?_⟩
 rw [e2] at hp
 rcases mem_put.1 hp with rfl | ⟨hp, _⟩
 ·exact Int.le_refl _
 ·have := h.keys p hp; omega
theorem lpF_add {s t : LogSt} {E : VL} {k : Int} {v : ByteArray} (h : lpF s E = some t) (he : lputE t k v = 0) : lpF s (E ++ [(k, v)]) = some (lputS t k v) := by
 rw [lpF_snoc, h]
 show lpF t [(k, v)] = _
 simp only [lpF]
 rw [if_pos he]
structure LdR (W X : World) (sb lo p a m q k : Nat) (n : Int) (st : Rd) (t : NSt) (pb : Nat) (ra rb : Int) (g : Nat) (L : List Et) : Prop where
 l : LdS W X sb lo p a m q k n st t
 bal : Blk X pb 24 #[.int .i64 ra, .int .i64 rb]
 row : RowE encEt X g L
 hp : sb + 3 ≤ pb
 hg : pb < g
namespace LdR
variable {W X Y : World} {sb lo p a m q k pb g : Nat} {n ra rb : Int} {st st' : Rd} {t t' : NSt} {L : List Et}
theorem rstep (h : LdR W X sb lo p a m q k n st t pb ra rb g L) (s : RStep X lo p Y st') : LdR W Y sb lo p a m q k n st' t pb ra rb g L := by
 have h2 := h.l.psb
 have h3 := h.hp
 have h4 := h.hg
 exact ⟨h.l.rstep s, h.bal.fr s.fr (fun e => by have e : pb = p := e; omega), h.row.fr s.fr (fun e => by have e : g = p := e; omega), h3, h4⟩
theorem below (h : LdR W X sb lo p a m q k n st t pb ra rb g L) (b : Below X.heap.size X Y) : LdR W Y sb lo p a m q k n st t pb ra rb g L := h.rstep (RStep.below h.l.rd b)
theorem nstep (h : LdR W X sb lo p a m q k n st t pb ra rb g L) (hn : NS Y a m q k t') (f : Fr (nF a m q k) X Y) : LdR W Y sb lo p a m q k n st t' pb ra rb g L := by
 have h1 := h.l.lop
 have h2 := h.l.psb
 have h3 := h.hp
 have h4 := h.hg
 exact ⟨h.l.nstep hn f, h.bal.fr f (fun e => by have := h.l.nlo _ e; omega), h.row.fr f (fun e => by have := h.l.nlo _ e; omega), h3, h4⟩
theorem setc (h : LdR W X sb lo p a m q k n st t pb ra rb g L) {xb : Nat} (hx : g < xb) (j : Nat) (v : Value) : LdR W (X.setCell ⟨xb, j, none⟩ v) sb lo p a m q k n st t pb ra rb g L := by
 have h3 := h.hp
 have h4 := h.hg
 have f : Fr (S1 xb) X (X.setCell ⟨xb, j, none⟩ v) := (Fr.refl (S1 xb) X).setCell (p := ⟨xb, j, none⟩) (.inl rfl) v
 exact ⟨h.l.ofFr f (fun i e => by have e : i = xb := e; omega), h.bal.fr f (fun e => by have e : pb = xb := e; omega), h.row.fr f (fun e => by have e : g = xb := e; omega), h3, h4⟩
theorem rowTo (h : LdR W X sb lo p a m q k n st t pb ra rb g L) {L' : List Et} (f : Fr (S1 g) X Y) (hr : RowE encEt Y g L') : LdR W Y sb lo p a m q k n st t pb ra rb g L' := by
 have h3 := h.hp
 have h4 := h.hg
 exact ⟨h.l.ofFr f (fun i e => by have e : i = g := e; omega), h.bal.fr f (fun e => by have e : pb = g := e; omega), hr, h3, h4⟩
theorem drew (h : LdR W X sb lo p a m q k n st t pb ra rb g L) : LdR W X.drew sb lo p a m q k n st t pb ra rb g L := h.below (Below.refl _ X).drew
theorem e0 (h : LdR W X sb lo p a m q k n st t pb ra rb g L) : X.cell? ⟨pb, 0, none⟩ = some (.int .i64 ra) := h.bal.cell (i := 0) rfl
theorem e1 (h : LdR W X sb lo p a m q k n st t pb ra rb g L) : X.cell? ⟨pb, 1, none⟩ = some (.int .i64 rb) := h.bal.cell (i := 1) rfl
end LdR
theorem bldEnt1 (s : Int) (W : World) : (Instr.build 128 #[(0, .int .i64 s)]).run Tryz.prog W = .ok (etV ⟨s, 0, 0, ⟨#[]⟩⟩) W := run_build W 128 _ _ (by kernel_rfl)
theorem row_set {D : List Et} {i N : Nat} (x : Et) (hd : D.length = i) (h : i < N) : (D ++ List.replicate (N - i) zEt).set i x = (D ++ [x]) ++ List.replicate (N - (i + 1)) zEt := by
 subst hd
 obtain ⟨j, hj⟩ : ∃ j, N - D.length = j + 1 := ⟨N - D.length - 1, by omega⟩
 rw [hj, show N - (D.length + 1) = j by omega, List.replicate_succ, List.set_append_right _ _ (Nat.le_refl _), Nat.sub_self, List.set_cons_zero]
 simp
end Go.Proofs.YtlfikhblmbidmaaGreatDoor