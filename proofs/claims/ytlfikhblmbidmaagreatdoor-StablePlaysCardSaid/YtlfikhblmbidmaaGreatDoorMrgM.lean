/- Laid together by gen/merge.py: LodQ R17A R17B R17C R17D. -/
import Derived.Test.YtlfikhblmbidmaaGreatDoorRecS
import Derived.Test.YtlfikhblmbidmaaGreatDoorMrgI
import Derived.Test.YtlfikhblmbidmaaGreatDoorMrgJ
import Derived.Test.YtlfikhblmbidmaaGreatDoorMrgL
import Derived.Deep.DeepCutAuto
import Derived.Deep.CutBlock
import Derived.Deep.LoopGhost
import Derived.Deep.RegionHeld3
set_option linter.all false
namespace Go.Proofs.YtlfikhblmbidmaaGreatDoor
open Go.RowKit Go.Maps
theorem valQ_good {n : Int} (hn : okN n) (r d : Int) : valQ n r d = goodB n r d := by
 obtain ⟨h1, h2⟩ := hn
 by_cases hz : r = 0 ∧ d = 0
 ·obtain ⟨rfl, rfl⟩ := hz
  simp [valQ, goodB]
 ·have hz' : (r == 0 && d == 0) = false := by
   rw [Bool.eq_false_iff]
   intro e
   simp at e
   exact hz e
  unfold valQ goodB chkE
  rw [hz', if_neg (by omega), if_neg hz]
  by_cases h : r < 1 ∨ 1073741824 < r ∨ d < 0 ∨ n ≤ d
  ·rw [if_pos h]
   have hf : (decide (r ≥ 1) && (decide (r ≤ 1073741824) && (decide (d ≥ 0) && decide (d < n)))) = false := by
    rw [Bool.eq_false_iff]
    intro e
    simp at e
    omega
   rw [hf]
   rfl
  ·rw [if_neg h]
   simp
   omega
def rB (s : Rd) : (Nat × Nat) × Rd := (((rdM 1073741824 s).1, (rdM 6 (rdM 1073741824 s).2).1), (rdM 6 (rdM 1073741824 s).2).2)
def rE (s : Rd) : Et × Rd := (⟨((rdM 4095 s).1 : Int), ((rB (rdM 4095 s).2).1.1 : Int), ((rB (rdM 4095 s).2).1.2 : Int), sB (rdT (rB (rdM 4095 s).2).2).1⟩, (rdT (rB (rdM 4095 s).2).2).2)
def rEs : Nat → Rd → List Et × Rd
 | 0, s => ([], s)
 | k + 1, s => ((rE s).1 :: (rEs k (rE s).2).1, (rEs k (rE s).2).2)
def entQ (n : Int) (pr : Nat × Nat) : Int → List Et → Bool
 | _, [] => true
 | last, x :: r => decide (entOk n pr last x) && entQ n pr x.sl r
def rV (s : Rd) : (Int × ByteArray) × Rd := ((((rdM 4095 s).1 : Nat), sB (rdT (rdM 4095 s).2).1), (rdT (rdM 4095 s).2).2)
def rVs : Nat → Rd → VL × Rd
 | 0, s => ([], s)
 | k + 1, s => ((rV s).1 :: (rVs k (rV s).2).1, (rVs k (rV s).2).2)
def hasQ : Int → VL → Bool
 | _, [] => true
 | last, x :: r => decide (last < x.1) && hasQ x.1 r
theorem rEs_n : ∀ k, (rEs k none).2 = none
 | 0 => rfl
 | k + 1 => rEs_n k
theorem rVs_n : ∀ k, (rVs k none).2 = none
 | 0 => rfl
 | k + 1 => rVs_n k
theorem rdN_M1 {most : Nat} {s : Rd} {p : Nat × Rd} (h : rdN most s = some p) : rdM most s = p := by
 obtain ⟨a, s'⟩ := p
 have := rdN_dec h
 rw [rdM_yes (by rw [this.1]; exact this.2), this.1]
theorem rdN_M2 {most : Nat} {s : Rd} (h : (rdM most s).2 ≠ none) : rdN most s = some (rdM most s) := by
 by_cases hl : (rdU s).1 ≤ most
 ·exact rdN_M hl
 ·rw [rdM_no hl] at h
  exact absurd rfl h
theorem rdB_B1 {s : Rd} {p : (Nat × Nat) × Rd} (h : rdB s = some p) : rB s = p := by
 rcases rdB_cases s with ⟨_, e⟩ | ⟨_, _, _, _, e⟩ | ⟨a, s1, b, s2, h1, h2, e⟩
 ·rw [e] at h; cases h
 ·rw [e] at h; cases h
 ·rw [e] at h
  cases h
  unfold rB
  rw [rdN_M1 h1, rdN_M1 h2]
theorem rdB_B2 {s : Rd} (h : (rB s).2 ≠ none) : rdB s = some (rB s) := by
 have h2 : rdN 6 (rdM 1073741824 s).2 = some (rdM 6 (rdM 1073741824 s).2) := rdN_M2 h
 have h1 : rdN 1073741824 s = some (rdM 1073741824 s) := rdN_M2 (fun e => h (by show (rdM 6 (rdM 1073741824 s).2).2 = none; rw [e]; rfl))
 unfold rdB
 rw [h1, Option.bind_some, h2, Option.bind_some]
 rfl
theorem rdEt_E1 {s : Rd} {p : Et × Rd} (h : rdEt s = some p) : rE s = p := by
 unfold rdEt at h
 simp only [Option.bind_eq_some_iff] at h
 obtain ⟨⟨a, s1⟩, h1, ⟨⟨b, c⟩, s2⟩, h2, h3⟩ := h
 cases h3
 unfold rE
 rw [rdN_M1 h1, rdB_B1 h2]
theorem rdT_some {s : Rd} (h : (rdT s).2 ≠ none) : s ≠ none := fun e => h (by rw [e]; rfl)
theorem rdM_some {most : Nat} {s : Rd} (h : (rdM most s).2 ≠ none) : s ≠ none := fun e => h (by rw [e]; rfl)
theorem rB_some {s : Rd} (h : (rB s).2 ≠ none) : s ≠ none := fun e => h (by rw [e]; rfl)
theorem rdEt_E2 {s : Rd} (h : (rE s).2 ≠ none) : rdEt s = some (rE s) := by
 have h2 : (rB (rdM 4095 s).2).2 ≠ none := rdT_some h
 have h1 : (rdM 4095 s).2 ≠ none := rB_some h2
 unfold rdEt
 rw [rdN_M2 h1, Option.bind_some, rdB_B2 h2, Option.bind_some]
 rfl
theorem rEs_some {k : Nat} {s : Rd} (h : (rEs k s).2 ≠ none) : s ≠ none := fun e => h (by rw [e]; exact rEs_n k)
theorem rVs_some {k : Nat} {s : Rd} (h : (rVs k s).2 ≠ none) : s ≠ none := fun e => h (by rw [e]; exact rVs_n k)
theorem entP_Q1 {n : Int} {pr : Nat × Nat} : ∀ (k : Nat) (last : Int) (s : Rd) (p : List Et × Rd), entP n pr k last s = some p → rEs k s = p ∧ entQ n pr last p.1 = true
 | 0, last, s, p, h => by
  simp only [entP] at h
  cases h
  exact ⟨rfl, rfl⟩
 | k + 1, last, s, p, h => by
  simp only [entP, Option.bind_eq_some_iff] at h
  obtain ⟨⟨x, s1⟩, h1, h2⟩ := h
  split at h2
  ·rename_i hok
   simp only [Option.map_eq_some_iff] at h2
   obtain ⟨⟨r, s2⟩, h3, h4⟩ := h2
   cases h4
   obtain ⟨i1, i2⟩ := entP_Q1 k _ _ _ h3
   have e := rdEt_E1 h1
   refine ⟨?_, ?_⟩
   ·simp only [rEs, e, i1]
   ·simp only [entQ, Bool.and_eq_true, decide_eq_true_eq]
    exact ⟨hok, i2⟩
  ·cases h2
theorem entP_Q2 {n : Int} {pr : Nat × Nat} : ∀ (k : Nat) (last : Int) (s : Rd), (rEs k s).2 ≠ none → entP n pr k last s = if entQ n pr last (rEs k s).1 = true then some (rEs k s) else none
 | 0, last, s, h => by simp [entP, rEs, entQ]
 | k + 1, last, s, h => by
  have h1 : (rE s).2 ≠ none := rEs_some (k := k) h
  have ih := entP_Q2 (n := n) (pr := pr) k (rE s).1.sl (rE s).2 h
  simp only [entP, rdEt_E2 h1, Option.bind_some, ih, rEs, entQ, Bool.and_eq_true, decide_eq_true_eq]
  by_cases ho : entOk n pr last (rE s).1
  ·rw [if_pos ho]
   by_cases hq : entQ n pr (rE s).1.sl (rEs k (rE s).2).1 = true
   ·rw [if_pos hq, if_pos ⟨ho, hq⟩]; rfl
   ·rw [if_neg hq, if_neg (fun e => hq e.2)]; rfl
  ·rw [if_neg ho, if_neg (fun e => ho e.1)]
theorem hasP_Q1 : ∀ (k : Nat) (last : Int) (s : Rd) (p : VL × Rd), hasP k last s = some p → rVs k s = p ∧ hasQ last p.1 = true
 | 0, last, s, p, h => by
  simp only [hasP] at h
  cases h
  exact ⟨rfl, rfl⟩
 | k + 1, last, s, p, h => by
  simp only [hasP, Option.bind_eq_some_iff] at h
  obtain ⟨⟨a, s1⟩, h1, h2⟩ := h
  split at h2
  ·rename_i hok
   simp only [Option.map_eq_some_iff] at h2
   obtain ⟨⟨r, s2⟩, h3, h4⟩ := h2
   cases h4
   obtain ⟨i1, i2⟩ := hasP_Q1 k _ _ _ h3
   have e := rdN_M1 h1
   refine ⟨?_, ?_⟩
   ·simp only [rVs, rV, e, i1]
   ·simp only [hasQ, Bool.and_eq_true, decide_eq_true_eq]
    exact ⟨hok, i2⟩
  ·cases h2
theorem hasP_Q2 : ∀ (k : Nat) (last : Int) (s : Rd), (rVs k s).2 ≠ none → hasP k last s = if hasQ last (rVs k s).1 = true then some (rVs k s) else none
 | 0, last, s, h => by simp [hasP, rVs, hasQ]
 | k + 1, last, s, h => by
  have h1 : (rV s).2 ≠ none := rVs_some (k := k) h
  have h2 : (rdM 4095 s).2 ≠ none := rdT_some h1
  have ih := hasP_Q2 k (rV s).1.1 (rV s).2 h
  have e : rdN 4095 s = some ((rdM 4095 s).1, (rdM 4095 s).2) := rdN_M2 h2
  simp only [hasP, e, Option.bind_some, rVs, hasQ, Bool.and_eq_true, decide_eq_true_eq]
  have ih : hasP k ((rdM 4095 s).1 : Int) (rdT (rdM 4095 s).2).2 = _ := ih
  rw [ih]
  by_cases ho : last < ((rdM 4095 s).1 : Int)
  ·rw [if_pos ho]
   by_cases hq : hasQ (rV s).1.1 (rVs k (rV s).2).1 = true
   ·rw [if_pos hq, if_pos ⟨ho, hq⟩]; rfl
   ·rw [if_neg hq, if_neg (fun e => hq e.2)]; rfl
  ·rw [if_neg ho, if_neg (fun e => ho e.1)]
structure LdQ where
 pr : Nat × Nat
 b0 : Nat
 k : Nat
 es : List Et
 c : Nat
 m : Nat
 hs : VL
 s2 : Rd
 s3 : Rd
 s4 : Rd
 s5 : Rd
 s6 : Rd
 s7 : Rd
 st : Rd
structure LqR (s : Rd) (q : LdQ) : Prop where
 e1 : rB s = (q.pr, q.s2)
 e2 : rdM 4096 q.s2 = (q.b0, q.s3)
 e3 : rdM 4096 q.s3 = (q.k, q.s4)
 e4 : rEs q.k q.s4 = (q.es, q.s5)
 e5 : rdM 4096 q.s5 = (q.c, q.s6)
 e6 : rdM 4096 q.s6 = (q.m, q.s7)
 e7 : rVs q.m q.s7 = (q.hs, q.st)
theorem lqR (s : Rd) : ∃ q, LqR s q := by
 obtain ⟨⟨pr, s2⟩, e1⟩ : ∃ p, rB s = p := ⟨_, rfl⟩
 obtain ⟨⟨b0, s3⟩, e2⟩ : ∃ p, rdM 4096 s2 = p := ⟨_, rfl⟩
 obtain ⟨⟨k, s4⟩, e3⟩ : ∃ p, rdM 4096 s3 = p := ⟨_, rfl⟩
 obtain ⟨⟨es, s5⟩, e4⟩ : ∃ p, rEs k s4 = p := ⟨_, rfl⟩
 obtain ⟨⟨c, s6⟩, e5⟩ : ∃ p, rdM 4096 s5 = p := ⟨_, rfl⟩
 obtain ⟨⟨m, s7⟩, e6⟩ : ∃ p, rdM 4096 s6 = p := ⟨_, rfl⟩
 obtain ⟨⟨hs, st⟩, e7⟩ : ∃ p, rVs m s7 = p := ⟨_, rfl⟩
 exact ⟨⟨pr, b0, k, es, c, m, hs, s2, s3, s4, s5, s6, s7, st⟩, e1, e2, e3, e4, e5, e6, e7⟩
def LdQ.ok (n : Int) (q : LdQ) : Bool := (decide (q.pr.1 = 0 ∧ q.pr.2 = 0) || goodB n q.pr.1 q.pr.2) && (entQ n q.pr ((q.b0 : Int) - 1) q.es && hasQ ((q.c : Int) - 1) q.hs)
theorem loadP_Q1 {n : Int} {s : Rd} {x : NSt × Rd} {q : LdQ} (hq : LqR s q) (h : loadP n s = some x) : x.2 = q.st ∧ q.ok n = true := by
 unfold loadP at h
 simp only [Option.bind_eq_some_iff] at h
 obtain ⟨p, h1, h2⟩ := h
 split at h2
 ·rename_i hg
  simp only [Option.bind_eq_some_iff, Option.map_eq_some_iff] at h2
  obtain ⟨b, h3, k, h4, e, h5, c, h6, m, h7, t, h8, l, h9, rfl⟩ := h2
  have e1 := hq.e1.symm.trans (rdB_B1 h1)
  subst e1
  have e3 := hq.e2.symm.trans (rdN_M1 h3)
  subst e3
  have e4 := hq.e3.symm.trans (rdN_M1 h4)
  subst e4
  obtain ⟨e5, q5⟩ := entP_Q1 _ _ _ _ h5
  have e5 := hq.e4.symm.trans e5
  subst e5
  have e6 := hq.e5.symm.trans (rdN_M1 h6)
  subst e6
  have e7 := hq.e6.symm.trans (rdN_M1 h7)
  subst e7
  obtain ⟨e8, q8⟩ := hasP_Q1 _ _ _ _ h8
  have e8 := hq.e7.symm.trans e8
  subst e8
  refine ⟨rfl, ?_⟩
  simp only [LdQ.ok, Bool.and_eq_true, Bool.or_eq_true, decide_eq_true_eq]
  exact ⟨hg, q5, q8⟩
 ·cases h2
theorem pair_eq {α : Type} {p : α × Rd} {a : α} {b : Rd} (h : p = (a, b)) (k : b ≠ none) : p.2 ≠ none := by rw [h]; exact k
theorem LqR.some {s : Rd} {q : LdQ} (hq : LqR s q) (h : q.st ≠ none) : q.s2 ≠ none ∧ q.s3 ≠ none ∧ q.s4 ≠ none ∧ q.s5 ≠ none ∧ q.s6 ≠ none ∧ q.s7 ≠ none := by
 have h7 : q.s7 ≠ none := rVs_some (pair_eq hq.e7 h)
 have h6 : q.s6 ≠ none := rdM_some (pair_eq hq.e6 h7)
 have h5 : q.s5 ≠ none := rdM_some (pair_eq hq.e5 h6)
 have h4 : q.s4 ≠ none := rEs_some (pair_eq hq.e4 h5)
 have h3 : q.s3 ≠ none := rdM_some (pair_eq hq.e3 h4)
 have h2 : q.s2 ≠ none := rdM_some (pair_eq hq.e2 h3)
 exact ⟨h2, h3, h4, h5, h6, h7⟩
theorem loadP_Q2 {n : Int} {s : Rd} {q : LdQ} (hq : LqR s q) (h : q.st ≠ none) : loadP n s = if q.ok n = true then (lpF (ljmpS newLog (q.c : Int)) q.hs).map fun l => (⟨⟨n, q.pr.1, q.pr.2, q.b0, toEL q.es⟩, l⟩, q.st) else none := by
 obtain ⟨h2, h3, h4, h5, h6, h7⟩ := hq.some h
 have k1 := rdB_B2 (pair_eq hq.e1 h2)
 have k2 := rdN_M2 (pair_eq hq.e2 h3)
 have k3 := rdN_M2 (pair_eq hq.e3 h4)
 have k4 := entP_Q2 (n := n) (pr := q.pr) q.k ((q.b0 : Int) - 1) q.s4 (pair_eq hq.e4 h5)
 have k5 := rdN_M2 (pair_eq hq.e5 h6)
 have k6 := rdN_M2 (pair_eq hq.e6 h7)
 have k7 := hasP_Q2 q.m ((q.c : Int) - 1) q.s7 (pair_eq hq.e7 h)
 rw [hq.e1] at k1
 rw [hq.e2] at k2
 rw [hq.e3] at k3
 rw [hq.e4] at k4
 rw [hq.e5] at k5
 rw [hq.e6] at k6
 rw [hq.e7] at k7
 unfold loadP
 rw [k1]
 simp only [Option.bind_some, LdQ.ok, Bool.and_eq_true, Bool.or_eq_true, decide_eq_true_eq]
 by_cases hg : (q.pr.1 = 0 ∧ q.pr.2 = 0) ∨ goodB n q.pr.1 q.pr.2 = true
 ·rw [if_pos hg, k2]
  simp only [Option.bind_some]
  rw [k3]
  simp only [Option.bind_some]
  rw [k4]
  by_cases he : entQ n q.pr ((q.b0 : Int) - 1) q.es = true
  ·rw [if_pos he]
   simp only [Option.bind_some]
   rw [k5]
   simp only [Option.bind_some]
   rw [k6]
   simp only [Option.bind_some]
   rw [k7]
   by_cases hh : hasQ ((q.c : Int) - 1) q.hs = true
   ·rw [if_pos hh, if_pos ⟨hg, he, hh⟩]
    rfl
   ·rw [if_neg hh, if_neg (fun e => hh e.2.2)]
    rfl
  ·rw [if_neg he, if_neg (fun e => he e.2.1)]
   rfl
 ·rw [if_neg hg, if_neg (fun e => hg e.1)]
theorem loadS_no {n : Int} {bs : List UInt8} {q : LdQ} (hq : LqR (some bs) q) (h : ¬ (q.ok n = true ∧ endE q.st = 0)) : loadS n bs = none := by
 unfold loadS
 cases hp : loadP n (some bs) with
 | none => rfl
 | some x =>
  obtain ⟨h1, h2⟩ := loadP_Q1 hq hp
  show (if endE x.2 = 0 then some x.1 else none) = none
  rw [h1]
  exact if_neg (fun e => h ⟨h2, e⟩)
theorem loadS_yes {n : Int} {bs : List UInt8} {q : LdQ} (hq : LqR (some bs) q) (h1 : q.ok n = true) (h2 : endE q.st = 0) :
  ∃ l, lpF (ljmpS newLog (q.c : Int)) q.hs = some l ∧ loadS n bs = some ⟨⟨n, q.pr.1, q.pr.2, q.b0, toEL q.es⟩, l⟩ ∧ EntsOk n q.pr ((q.b0 : Int) - 1) q.es := by
 have hst : q.st ≠ none := fun e => by rw [e] at h2; cases h2
 have hp := loadP_Q2 (n := n) hq hst
 rw [if_pos h1] at hp
 obtain ⟨_, _, _, h5, _, h7⟩ := hq.some hst
 have h1' := h1
 simp only [LdQ.ok, Bool.and_eq_true] at h1'
 have k7 := hasP_Q2 q.m ((q.c : Int) - 1) q.s7 (pair_eq hq.e7 hst)
 rw [hq.e7, if_pos h1'.2.2] at k7
 have k4 := entP_Q2 (n := n) (pr := q.pr) q.k ((q.b0 : Int) - 1) q.s4 (pair_eq hq.e4 h5)
 rw [hq.e4, if_pos h1'.2.1] at k4
 have hc : q.c ≤ 4096 := by
  have := rdM_le 4096 q.s5
  rw [hq.e5] at this
  exact this
 obtain ⟨l, hl⟩ := lpF_all hc k7
 refine ⟨l, hl, ?_, (entP_ok _ _ _ _ _ k4).1⟩
 rw [hl] at hp
 unfold loadS
 rw [hp]
 show (if endE q.st = 0 then some _ else none) = _
 rw [if_pos h2]
def acFold (a : ASt) (R : List Et) : ASt := R.foldl (fun a x => acS a x.r x.d x.sl x.v) a
def lpFold (s : LogSt) (H : VL) : LogSt := H.foldl (fun s x => lputS s x.1 x.2) s
theorem acFold_of : ∀ (R : List Et) (a a' : ASt), acF a R = some a' → acFold a R = a'
 | [], a, a', h => by
  simp only [acF] at h
  exact Option.some.inj h
 | x :: r, a, a', h => by
  simp only [acF] at h
  split at h
  ·exact acFold_of r _ a' h
  ·cases h
theorem lpFold_of : ∀ (H : VL) (s s' : LogSt), lpF s H = some s' → lpFold s H = s'
 | [], s, s', h => by
  simp only [lpF] at h
  exact Option.some.inj h
 | x :: r, s, s', h => by
  simp only [lpF] at h
  split at h
  ·exact lpFold_of r _ s' h
  ·cases h
theorem acFold_all {n : Int} {pr : Nat × Nat} {b0 : Nat} {l R : List Et} (hb : b0 ≤ 4096) (h : EntsOk n pr ((b0 : Int) - 1) l) (hp : l.Perm R) (hR : KSort kV R) :
  ∃ r d, acFold ⟨n, 0, 0, b0, []⟩ R = ⟨n, r, d, b0, toEL l⟩ ∧ leBal (r, d) ((pr.1 : Int), (pr.2 : Int)) ∧ (R = [] → r = 0 ∧ d = 0) := by
 have hm : ∀ x, x ∈ R ↔ x ∈ l := fun x => hp.mem_iff.symm
 have hpw : R.Pairwise (fun x y => x.sl ≠ y.sl) := by
  have h1 : l.Pairwise (fun x y => x.sl ≠ y.sl) := h.srt.imp (fun {a b} e => by omega)
  exact (hp.pairwise_iff (fun {a b} e => fun h => e h.symm)).1 h1
 obtain ⟨a', e, en, eb, es, em, er⟩ := acF_run R ⟨n, 0, 0, b0, []⟩ (fun x hx => by
  have hx := (hm x).1 hx
  have h1 := h.slots x hx
  have h2 := h.good x hx
  refine ⟨h2, ⟨by omega, h1.2⟩, h.size x hx, h.ok x hx, by show (b0 : Int) ≤ x.sl; omega, ?_⟩
  rw [leBal_iff]
  show (0 : Int) < x.r ∨ (0 : Int) = x.r ∧ (0 : Int) ≤ x.d
  have := (h.ok x hx).1
  unfold goodB chkE at h2
  simp only [Bool.and_eq_true, Bool.not_eq_true', Bool.and_eq_false_iff, beq_eq_false_iff_ne, beq_iff_eq] at h2
  obtain ⟨h3, h4⟩ := h2
  split at h4
  ·cases h4
  ·split at h4
   ·rename_i k; omega
   ·split at h4
    ·cases h4
    ·omega) hR hpw (fun x hx p hp => by cases hp) List.Pairwise.nil
 have hL : a'.L = toEL l := srt_ext es (toEL_srt h.srt) (fun p => by
  rw [em p]
  simp only [List.not_mem_nil, false_or, toEL, List.mem_map]
  constructor
  ·rintro ⟨x, hx, rfl⟩; exact ⟨x, (hm x).1 hx, rfl⟩
  ·rintro ⟨x, hx, rfl⟩; exact ⟨x, (hm x).2 hx, rfl⟩)
 have hpos : leBal ((0 : Int), (0 : Int)) ((pr.1 : Int), (pr.2 : Int)) := by
  rw [leBal_iff]
  show (0 : Int) < (pr.1 : Int) ∨ (0 : Int) = (pr.1 : Int) ∧ (0 : Int) ≤ (pr.2 : Int)
  omega
 have ef := acFold_of _ _ _ e
 obtain ⟨n', r', d', b', L'⟩ := a'
 simp only at en eb hL
 subst en eb hL
 refine ⟨r', d', ef, ?_, fun hRe => ?_⟩
 ·rcases er with ⟨_, e2⟩ | ⟨x, hx, e1, e2⟩
  ·simp only [ASt.mk.injEq] at e2
   rw [e2.2.1, e2.2.2.1]; exact hpos
  ·simp only at e1 e2
   rw [e1, e2]
   exact h.le x ((hm x).1 hx)
 ·rcases er with ⟨_, e2⟩ | ⟨x, hx, _⟩
  ·simp only [ASt.mk.injEq] at e2
   exact ⟨e2.2.1, e2.2.2.1⟩
  ·rw [hRe] at hx; cases hx
theorem entsQ_zero {n last : Int} {D : List Et} (h : EntsOk n (0, 0) last D) : D = [] := by
 refine List.eq_nil_iff_forall_not_mem.2 fun x hx => ?_
 have h1 := goodB_pos (h.good x hx)
 have h2 := h.le x hx
 have h3 := (leBal_iff _ _).1 (show leBal (x.r, x.d) (((0 : Nat) : Int), ((0 : Nat) : Int)) from h2)
 have h3 : x.r < 0 ∨ x.r = 0 ∧ x.d ≤ 0 := h3
 omega
end Go.Proofs.YtlfikhblmbidmaaGreatDoor
namespace Go.Proofs.YtlfikhblmbidmaaGreatDoor
open Go.RowKit Go.Maps
def belQ (r1 d1 r2 d2 : Int) : Bool := decide (ordB (r1, d1) (r2, d2) < 0)
theorem belQ_iff (r1 d1 r2 d2 : Int) : belQ r1 d1 r2 d2 = true ↔ r1 < r2 ∨ (r1 = r2 ∧ d1 < d2) := by
 unfold belQ
 rw [decide_eq_true_iff, ordB_lt_iff]
theorem rbelow_any (r1 d1 r2 d2 : Int) (w : World) :
  Calls Tryz.prog 178 #[balV r1 d1, balV r2 d2] w fun e w' => e = .returned (.bool (belQ r1 d1 r2 d2)) ∧ Below w.heap.size w w' := by
 have hb := bchain (box_below w (.cells #[.int .i64 r1, .int .i64 d1] 24)) (box_below _ (.cells #[.int .i64 r2, .int .i64 d2] 24))
 by_cases h1 : r1 < r2
 ·have E : belQ r1 d1 r2 d2 = true := (belQ_iff _ _ _ _).2 (.inl h1)
  have h1' : decide (r1 < r2) = true := by simpa using h1
  rw [E]; clear E h1
  go_enter Tryz.func178, Tryz.ntmps178
  go_wp2_with fail
  go_returns
  exact ⟨rfl, hb⟩
 have h1' : decide (r1 < r2) = false := by simpa using h1
 by_cases h2 : r1 = r2
 ·subst h2
  by_cases h3 : d1 < d2
  ·have E : belQ r1 d1 r1 d2 = true := (belQ_iff _ _ _ _).2 (.inr ⟨rfl, h3⟩)
   have h3' : decide (d1 < d2) = true := by simpa using h3
   rw [E]; clear E h1 h3
   go_enter Tryz.func178, Tryz.ntmps178
   go_wp2_with fail
   go_returns
   exact ⟨rfl, hb⟩
  ·have E : belQ r1 d1 r1 d2 = false := by
    rw [Bool.eq_false_iff]; intro e
    have := (belQ_iff _ _ _ _).1 e
    omega
   have h3' : decide (d1 < d2) = false := by simpa using h3
   rw [E]; clear E h1 h3
   go_enter Tryz.func178, Tryz.ntmps178
   go_wp2_with fail
   go_returns
   exact ⟨rfl, hb⟩
 ·have h2' : (r1 == r2) = false := by simpa using h2
  have E : belQ r1 d1 r2 d2 = false := by
   rw [Bool.eq_false_iff]; intro e
   have := (belQ_iff _ _ _ _).1 e
   omega
  rw [E]; clear E h1 h2
  go_enter Tryz.func178, Tryz.ntmps178
  go_wp2_with fail
  go_returns
  exact ⟨rfl, hb⟩
theorem raccept_any {w : World} {p : Nat} {v : Value} {s : ASt} (r1 d1 k : Int) (x : ByteArray) (h : RAt w p v s) :
  Calls Tryz.prog 41 #[.pointer (some ⟨p, 0, none⟩), balV r1 d1, .int .i64 k, .string x] w fun e w' => e = .returned (.int .i64 (acE s r1 d1 k x)) ∧ ∃ v', RAt w' p v' (acS s r1 d1 k x) ∧ Fr (S1 p) w w' := by
 by_cases hE : acE s r1 d1 k x = 0
 ·rw [hE]
  refine (raccept_yes p v s r1 d1 k x w h hE).mono ?_
  rintro e w' ⟨v', rfl, h1, h2⟩
  exact ⟨rfl, v', h1, h2⟩
 ·refine (raccept_bad p v s r1 d1 k x w h hE).mono ?_
  rintro e w' ⟨rfl, hb⟩
  rw [acS_no hE]
  exact ⟨rfl, v, h.below hb, Fr.of_below hb⟩
theorem rpromise_any {w : World} {p : Nat} {v : Value} {s : ASt} (r1 d1 k : Int) (h : RAt w p v s) :
  Calls Tryz.prog 39 #[.pointer (some ⟨p, 0, none⟩), balV r1 d1, .int .i64 k] w fun e w' => ∃ vo, e = .returned (.tuple #[vo, .int .i64 (prE s r1 d1 k)]) ∧ ∃ v', RAt w' p v' (prS s r1 d1 k) ∧ Fr (S1 p) w w' := by
 by_cases hE : prE s r1 d1 k = 0
 ·rw [hE]
  refine (rpromise_yes p v s r1 d1 k w h hE).mono ?_
  rintro e w' ⟨vo, rfl, _, h1, h2⟩
  rw [prS_ok hE]
  exact ⟨vo, rfl, v, h1, h2⟩
 ·refine (rpromise_bad p v s r1 d1 k w h hE).mono ?_
  rintro e w' ⟨rfl, hb⟩
  rw [prS_no hE]
  exact ⟨_, rfl, v, h.below hb, Fr.of_below hb⟩
theorem kV_below {x y : Et} (hx : okK x) (hy : okK y) : belQ x.r x.d y.r y.d = decide (kV x < kV y) := by
 simp only [okK] at hx hy
 rw [Bool.eq_iff_iff, belQ_iff, decide_eq_true_iff]
 unfold kV
 omega
structure AcS (l : List Et) (R rest : List Et) : Prop where
 perm : l.Perm (R ++ rest)
 srt : KSort kV R
 le : ∀ x ∈ R, ∀ y ∈ rest, kV x ≤ kV y
theorem AcS.step {l R rest : List Et} {k : Nat} {x : Et} (h : AcS l R rest) (hk : rest[k]? = some x) (hmin : ∀ y ∈ rest, kV x ≤ kV y) : AcS l (R ++ [x]) (rest.take k ++ rest.drop (k + 1)) := by
 have hkl : k < rest.length := (List.getElem?_eq_some_iff.1 hk).1
 have hsp : rest = rest.take k ++ x :: rest.drop (k + 1) := by
  rw [List.getElem?_eq_getElem hkl] at hk
  have hk := Option.some.inj hk
  rw [← hk, ← List.drop_eq_getElem_cons hkl, List.take_append_drop]
 have hm : ∀ y, y ∈ rest.take k ++ rest.drop (k + 1) → y ∈ rest := fun y hy => by
  rw [hsp]
  rcases List.mem_append.1 hy with hy | hy
  ·exact List.mem_append.2 (.inl hy)
  ·exact List.mem_append.2 (.inr (List.mem_cons_of_mem _ hy))
 refine ⟨h.perm.trans ?_, ?_, fun a ha b hb => ?_⟩
 ·rw [List.append_assoc]
  refine List.Perm.append_left R ?_
  have e : [x] ++ (rest.take k ++ rest.drop (k + 1)) = x :: (rest.take k ++ rest.drop (k + 1)) := rfl
  rw [e]
  refine (List.Perm.of_eq hsp).trans ?_
  exact List.perm_middle
 ·rw [KSort.append]
  refine ⟨h.srt, KSort.one x, fun a ha b hb => ?_⟩
  rw [List.mem_singleton.1 hb]
  exact h.le a ha x (List.mem_of_getElem? hk)
 ·rcases List.mem_append.1 ha with ha | ha
  ·exact h.le a ha b (hm b hb)
  ·rw [List.mem_singleton.1 ha]
   exact hmin b (hm b hb)
theorem acFold_snoc (a : ASt) (R : List Et) (x : Et) : acFold a (R ++ [x]) = acS (acFold a R) x.r x.d x.sl x.v := by simp [acFold]
end Go.Proofs.YtlfikhblmbidmaaGreatDoor
namespace Go.Proofs.YtlfikhblmbidmaaGreatDoor
open Go.RowKit Go.Maps
def slLen : Value → Nat
 | .slice _ n _ => n
 | _ => 0
theorem toEL_len (l : List Et) : (toEL l).length = l.length := by simp [toEL]
theorem toEL_at {l : List Et} {i : Nat} {x : Et} (h : l[i]? = some x) : (toEL l)[i]? = some (x.sl, x.r, x.d, x.v) := by
 unfold toEL
 rw [List.getElem?_map, h]
 rfl
theorem toEL_append (a b : List Et) : toEL (a ++ b) = toEL a ++ toEL b := by simp [toEL]
theorem cellsE_sub (P M S : EL) (t : Nat) (u : Value) (h : (cellsE M)[t]? = some u) : (cellsE (P ++ M ++ S))[P.length * 4 + t]? = some u := by
 have ht := (List.getElem?_eq_some_iff.1 h).1
 rw [cellsE_append, cellsE_append, List.getElem?_append_left (by rw [List.length_append, cellsE_length]; omega), List.getElem?_append_right (by rw [cellsE_length]; omega), cellsE_length, Nat.add_sub_cancel_left]
 exact h
theorem sub_reads {w : World} {lo g n cap : Nat} {L P M S : EL} (h : EntRow w lo (.slice (some ⟨g, 0, none⟩) n cap) L) (e : L = P ++ M ++ S) (A : Option Addr) (m : Nat) (hm : m = M.length) (hA : m = 0 ∨ A = some ⟨g, P.length * 4, none⟩) : Reads w 4 A m (cellsE M) := by
 subst hm
 refine ⟨cellsE_length M, fun h0 => ?_⟩
 rcases hA with hA | hA
 ·omega
 refine ⟨_, hA, fun j u hu => ?_⟩
 obtain ⟨A', cap', hv, _, _, _, _, hc⟩ := row_view h
 have hlen : 0 < L.length := by rw [e]; simp; omega
 obtain ⟨g', hg', _, _, hcell⟩ := hc hlen
 cases hg'
 cases hv
 rw [Addr.add_lit]
 exact hcell _ _ (by rw [e]; exact cellsE_sub P M S j u hu)
set_option maxRecDepth 100000 in
set_option maxHeartbeats 8000000 in
theorem raccepted_any {w : World} {p : Nat} {av : Value} {s : ASt} (v : Value) (l : List Et) (h : RAt w p av s) (hr : EntRow w 0 v (toEL l)) (hok : ∀ x ∈ l, okK x) (hl : l.length ≤ 4096) :
  Calls Tryz.prog 180 #[.pointer (some ⟨p, 0, none⟩), v] w fun e w' => e = .returned (.tuple #[]) ∧ ∃ av' R, l.Perm R ∧ KSort kV R ∧ RAt w' p av' (acFold s R) ∧ Fr (S1 p) w w' := by
 obtain ⟨i0, hi, hz0, hz1, hz2⟩ := info_parts info_ent
 have HI := Lib.hid hi
 have HZ0 := Lib.hid hz0
 have HZ1 := Lib.hid hz1
 have HZ2 := Lib.hid hz2
 have HA := Lib.hid h
 have HR := Lib.hid hr
 have HOK := Lib.hid hok
 obtain ⟨A0, cap0, rfl, _, _⟩ := hr.view
 clear hi hz0 hz1 hz2 h hr hok
 go_enter Tryz.func180, Tryz.ntmps180
 go_wp2_with fail
 go_loopw [1] (fun c1 wr => ∃ (R rest : List Et) (av' : Value), AcS l R rest ∧ EntRow wr 0 c1 (toEL rest) ∧ RAt wr p av' (acFold s R) ∧ Fr (S1 p) w wr) (fun c _ => slLen c)
 case atStart => exact ⟨[], l, av, ⟨by simp, KSort.nil, fun x hx => by cases hx⟩, HR.out, HA.out, Fr.refl _ _⟩
 case round =>
  obtain ⟨R, rest, av', hac, hrow, hat, hfr⟩ := hrel
  rename World => W0
  have HAC := Lib.hid hac
  have HROW := Lib.hid hrow
  have HAT := Lib.hid hat
  have HFR := Lib.hid hfr
  obtain ⟨A, cap, rfl, hcap, hc⟩ := hrow.view
  have hll : (toEL rest).length = rest.length := toEL_len rest
  have hrl : rest.length ≤ 4096 := by
   have := hac.perm.length_eq
   rw [List.length_append] at this
   omega
  have hokr : ∀ x ∈ rest, okK x := fun x hx => HOK.out x (hac.perm.mem_iff.2 (List.mem_append.2 (.inr hx)))
  have HOKR := Lib.hid hokr
  rw [hll] at hcap hc
  have HC := Lib.hid hc
  clear hac hrow hat hfr hc hokr HR HA
  by_cases h0 : 0 < rest.length
  ·obtain ⟨g, rfl, _, hg, hcells⟩ := HC.out h0
   have HCE := Lib.hid (fun (i : Nat) (x : Et) (hx : rest[i]? = some x) => hcells i _ _ (toEL_at hx))
   clear hcells
   go_upto_region 3 with fail
   go_loopw [4, 5] (fun ck ci wi => ∃ (k i : Nat) (x : Et), k < rest.length ∧ 1 ≤ i ∧ i ≤ rest.length ∧ ck = .int .i64 (k : Int) ∧ ci = .int .i64 (i : Int) ∧ rest[k]? = some x ∧ (∀ (j : Nat) (y : Et), j < i → rest[j]? = some y → kV x ≤ kV y) ∧ Below W0.heap.size W0 wi) (fun _ c _ => rest.length - (intOf c).toNat)
   case atStart =>
    obtain ⟨x, hx⟩ : ∃ x, rest[0]? = some x := ⟨_, List.getElem?_eq_getElem h0⟩
    refine ⟨0, 1, x, h0, Nat.le_refl _, h0, rfl, rfl, hx, fun j y hj hy => ?_, Below.refl _ _⟩
    obtain rfl : j = 0 := by omega
    rw [hx] at hy
    cases hy
    exact Int.le_refl _
   case round =>
    obtain ⟨k, i, x, hk, hi1, hi2, rfl, rfl, hkx, hmin, hB⟩ := hrel
    have HKX := Lib.hid hkx
    have HMIN := Lib.hid hmin
    have HB := Lib.hid hB
    obtain ⟨a0, a1, a2, a3⟩ := HCE.out k x hkx
    have ka0 := bcell hB a0
    have ka1 := bcell hB a1
    have ka2 := bcell hB a2
    have ka3 := bcell hB a3
    clear a0 a1 a2 a3 hkx hmin
    by_cases hlt : i < rest.length
    ·obtain ⟨y, hy⟩ : ∃ y, rest[i]? = some y := ⟨_, List.getElem?_eq_getElem hlt⟩
     obtain ⟨b0, b1, b2, b3⟩ := HCE.out i y hy
     have kb1 := bcell hB b1
     have kb2 := bcell hB b2
     have HY := Lib.hid hy
     have hbel := kV_below (HOKR.out y (List.mem_of_getElem? hy)) (HOKR.out x (List.mem_of_getElem? HKX.out))
     have HBC := Lib.hid (fun (X : World) => rbelow_any y.r y.d x.r x.d X)
     rw [hbel] at HBC
     have hiw : IntKind.i64.wrap ((i : Int) + 1) = ((i + 1 : Nat) : Int) := by rw [IntKind.wrap_i64]; omega
     clear b0 b1 b2 b3 hy hbel ka0 ka3 hB
     go_upto_region 5 with fail
     go_region_held3 (fun W => W.cell? ⟨g, k * 4 + 1, none⟩ = some (.int .i64 x.r) ∧ W.cell? ⟨g, k * 4 + 2, none⟩ = some (.int .i64 x.d) ∧ W.cell? ⟨g, i * 4 + 1, none⟩ = some (.int .i64 y.r) ∧ W.cell? ⟨g, i * 4 + 2, none⟩ = some (.int .i64 y.d))
      (first | exact ⟨by assumption, by assumption, by assumption, by assumption⟩ | go_keep)
      (first
       | (go_at_call 178; refine (HBC.out _).mono ?_; rintro e w3 ⟨rfl, b3⟩; have u1 := bcell b3 ka1; have u2 := bcell b3 ka2; have u3 := bcell b3 kb1; have u4 := bcell b3 kb2; have HB3 := Lib.hid b3; clear b3))
     have HB4 := Lib.hid (bchain HB.out ((Below.refl _ wr).drew.trans (HB3.out.mono (by simp))))
     clear ka1 ka2 kb1 kb2 u1 u2 u3 u4
     by_cases hc : kV y < kV x
     ·have hc' : decide (kV y < kV x) = true := by simpa using hc
      rw [hc']
      have HC1 := Lib.hid hc
      clear hc hc'
      go_wp2_with fail
      go_roundw
      case rel =>
       refine ⟨i, i + 1, y, hlt, by omega, by omega, rfl, by go_num, HY.out, fun j z hj hz => ?_, HB4.out⟩
       by_cases hji : j < i
       ·have := HMIN.out j z hji hz
        have := HC1.out
        omega
       ·obtain rfl : j = i := by omega
        rw [HY.out] at hz
        cases hz
        exact Int.le_refl _
      case measure => simp [intOf]; omega
     ·have hc' : decide (kV y < kV x) = false := by simpa using hc
      rw [hc']
      have HC1 := Lib.hid hc
      clear hc hc'
      go_wp2_with fail
      go_roundw
      case rel =>
       refine ⟨k, i + 1, x, hk, by omega, by omega, rfl, by go_num, HKX.out, fun j z hj hz => ?_, HB4.out⟩
       by_cases hji : j < i
       ·exact HMIN.out j z hji hz
       ·obtain rfl : j = i := by omega
        rw [HY.out] at hz
        cases hz
        have := HC1.out
        omega
      case measure => simp [intOf]; omega
    ·have hlast : ∀ z ∈ rest, kV x ≤ kV z := fun z hz => by
      obtain ⟨j, hj⟩ := List.getElem?_of_mem hz
      exact HMIN.out j z (by have := (List.getElem?_eq_some_iff.1 hj).1; omega) hj
     have HSTEP := Lib.hid (HAC.out.step HKX.out hlast)
     have HAT1 := Lib.hid (HAT.out.below hB)
     have HROW1 := Lib.hid (HROW.out.below hB)
     clear hlast hB
     go_upto_region 7 with fail
     go_region_held3 (fun W => W.cell? ⟨g, k * 4, none⟩ = some (.int .i64 x.sl) ∧ W.cell? ⟨g, k * 4 + 1, none⟩ = some (.int .i64 x.r) ∧ W.cell? ⟨g, k * 4 + 2, none⟩ = some (.int .i64 x.d) ∧ W.cell? ⟨g, k * 4 + 3, none⟩ = some (.string x.v))
      (first | exact ⟨by assumption, by assumption, by assumption, by assumption⟩ | go_keep)
      (first
       | (go_at_call 41; refine (raccept_any x.r x.d x.sl x.v (HAT1.out.below (Below.refl _ wr).drew)).mono ?_; rintro e w3 ⟨rfl, av3, ha3, f3⟩; have r3 := row_fr (HROW1.out.below (Below.refl _ wr).drew) f3 (fun q hq e => row_ne_blk (HROW1.out.below (Below.refl _ wr).drew) (HAT1.out.below (Below.refl _ wr).drew).blk (by decide) q hq e); obtain ⟨A9, c9, hv9, _, hc9⟩ := EntRow.view r3; obtain ⟨g9, hg9, _, _, hce9⟩ := hc9 (by rw [hll]; exact h0); obtain ⟨rfl, rfl⟩ : some (⟨g, 0, none⟩ : Addr) = A9 ∧ cap = c9 := (by simp only [Value.slice.injEq] at hv9; exact ⟨hv9.1, hv9.2.2⟩); obtain rfl : g = g9 := (by simpa using hg9); obtain ⟨u0, u1, u2, u3⟩ := hce9 k _ _ (toEL_at HKX.out); have R3 := Lib.hid r3; clear r3 hc9 hv9 hg9 hce9; have HA3 := Lib.hid ha3; have HF3 := Lib.hid f3; clear ha3 f3))
     have HF4 := Lib.hid ((HFR.out.trans (Fr.of_below (bchain HB.out (Below.refl _ wr).drew))).trans HF3.out)
     clear ka0 ka1 ka2 ka3 u0 u1 u2 u3
     have hkl : (toEL (rest.take k)).length = k := by rw [toEL_len, List.length_take]; omega
     have hdl : (toEL (rest.drop (k + 1))).length = rest.length - (k + 1) := by rw [toEL_len, List.length_drop]
     have hsp : toEL rest = [] ++ toEL (rest.take k) ++ toEL (rest.drop k) := by rw [List.nil_append, ← toEL_append, List.take_append_drop]
     have hsp2 : toEL rest = toEL (rest.take (k + 1)) ++ toEL (rest.drop (k + 1)) ++ [] := by rw [List.append_nil, ← toEL_append, List.take_append_drop]
     have HKL := Lib.hid hkl
     have HDL := Lib.hid hdl
     have HSP := Lib.hid hsp
     have HSP2 := Lib.hid hsp2
     have HP1 : Hid ((toEL (rest.take (k + 1))).length = k + 1) := by rw [Hid, toEL_len, List.length_take]; omega
     have HA2 : Hid (rest.length - (k + 1) = 0 ∨ (if cap = k + 1 then some (⟨g, 0, none⟩ : Addr) else some ⟨g, (k + 1) * 4, none⟩) = some ⟨g, (toEL (rest.take (k + 1))).length * 4, none⟩) := by
      rw [Hid, HP1.out]
      by_cases hq : cap = k + 1
      ·left; omega
      ·right; rw [if_neg hq]
     have hcm : cap ≤ maxLen := by
      obtain ⟨_, _, hv, _, _, h, _⟩ := row_view R3.out
      cases hv
      exact h
     have hcm9 : cap ≤ 9223372036854775807 := by unfold maxLen at hcm; omega
     clear hkl hdl hsp hsp2
     go_wp2_with (first
      | (at_builtin; refine wpList_app rfl _ _ 67 rfl w3.heap.size 128 i0 (entV 0 (0, 0, ⟨#[]⟩)) 4 40 Tryz.underlying67 HI.out HZ0.out HZ1.out HZ2.out rfl (by decide) _ _ _ rfl (World.ownsRow_nil _ _ _ _) (some ⟨g, 0, none⟩) k cap (cellsE (toEL (rest.take k))) rfl (fun e => by cases e) (by omega) (sub_reads R3.out HSP.out _ _ HKL.out.symm (.inr (by simp))) (cellsE_one _) (by unfold maxLen; omega) (by omega) (Nat.le_refl _) ?_; intro v5 w5 ho5 hg5 _; rw [Nat.zero_add, List.nil_append] at ho5; obtain ⟨A5, c5, rfl⟩ := row_len ho5; have O5 := Lib.hid ho5; have G5 := Lib.hid hg5; have R35 := Lib.hid (row_fr R3.out (Fr.of_grown (S := S0) hg5 (fun i e => by cases e)) (fun q _ e => e)); clear ho5 hg5)
      | (at_builtin; go_loud (refine wpList_app rfl _ _ 67 rfl w3.heap.size 128 i0 (entV 0 (0, 0, ⟨#[]⟩)) 4 40 Tryz.underlying67 HI.out HZ0.out HZ1.out HZ2.out rfl (by decide) _ _ _ rfl O5.out _ (rest.length - (k + 1)) _ (cellsE (toEL (rest.drop (k + 1)))) rfl (fun e => by first | (cases e; done) | (split at e <;> cases e)) (by omega) (sub_reads (R35.out) HSP2.out _ _ HDL.out.symm HA2.out) (cellsE_one _) (by unfold maxLen; omega) (by omega) G5.out.size ?_); intro v6 w6 ho6 hg6 _; obtain ⟨A6, c6, rfl⟩ := row_len ho6; have O6 := Lib.hid ho6; have G6 := Lib.hid hg6; clear ho6 hg6))
     have B5 : Below w3.heap.size w3 w5 := Fr.upB (Below.refl _ w3) (Fr.of_grown (S := S0) G5.out (fun i e => by cases e)) (fun i e => e.elim)
     have B6 : Below w3.heap.size w3 w6 := Fr.upB B5 (Fr.of_grown (S := fun i => w3.heap.size ≤ i) G6.out (fun i e => (O5.out.lt i e).1)) (fun i e => e)
     refine ⟨⟨R ++ [x], rest.take k ++ rest.drop (k + 1), av3, HSTEP.out, ?_, ?_, HF4.out.trans (Fr.of_below B6)⟩, ?_⟩
     ·unfold EntRow
      rw [toEL_append, cellsE_append, List.length_append, HKL.out, HDL.out]
      exact row_lower O6.out (Nat.zero_le _)
     ·rw [acFold_snoc]
      exact HA3.out.below B6
     ·simp only [slLen, toEL_len]
      omega
  ·have hnil : rest = [] := List.length_eq_zero_iff.1 (by omega)
   have hz : rest.length = 0 := by omega
   have HPM : Hid (l.Perm R) := by
    have := HAC.out.perm
    rw [hnil, List.append_nil] at this
    exact this
   have HSR := Lib.hid HAC.out.srt
   subst hnil
   go_wp2_with fail
   go_returns
   exact ⟨rfl, av', R, HPM.out, HSR.out, HAT.out, HFR.out⟩
end Go.Proofs.YtlfikhblmbidmaaGreatDoor
namespace Go.Proofs.YtlfikhblmbidmaaGreatDoor
open Go.RowKit Go.Maps
theorem row_blk {W : World} {lo size k : Nat} {e : TypeId} {v : Value} {xs : List Value} (h : W.ownsRow lo e size v k xs) : ∀ i, v.ownBlock = some i → ∃ cur, W.heap[i]? = some (.cells cur e (0, 0)) := fun i hi => by
 rcases h.2 with ⟨rfl, _⟩ | ⟨g, cap, cur, rfl, _, hg, _⟩
 ·cases hi
 ·cases hi
  exact ⟨cur, hg⟩
theorem RAt.fr {S : Nat → Prop} {w w' : World} {p : Nat} {v : Value} {s : ASt} (h : RAt w p v s) (k : Fr S w w') (hp : ¬ S p) (hv : ∀ i, v.ownBlock = some i → ¬ S i) : RAt w' p v s :=
 ⟨h.blk.fr k hp, row_fr h.row k hv, h.good⟩
theorem RLog.fr {S : Nat → Prop} {w w' : World} {p : Nat} {v : Value} {l : VL} {s : LogSt} (h : RLog w p v l s) (k : Fr S w w') (hp : ¬ S p) (hv : ∀ i, v.ownBlock = some i → ¬ S i) : RLog w' p v l s :=
 ⟨h.blk.fr k hp, row_fr h.row k hv, h.perm, h.good⟩
structure LqS (w X : World) (p a q pb : Nat) (rv av lv : Value) (l : VL) (st : Rd) (s : ASt) (t : LogSt) (ra rb : Nat) : Prop where
 rd : RrAt X p rv st
 ac : RAt X a av s
 lg : RLog X q lv l t
 pr : Blk X pb 24 #[.int .i64 (ra : Int), .int .i64 (rb : Int)]
 bel : Below w.heap.size w X
 lp : w.heap.size ≤ p
 la : w.heap.size ≤ a
 lq : w.heap.size ≤ q
 lb : w.heap.size ≤ pb
 ll : ∀ i, lv.ownBlock = some i → w.heap.size ≤ i
 len : (st.getD []).length ≤ 100000000
namespace LqS
variable {w X Y : World} {p a q pb : Nat} {rv av lv rv' av' lv' : Value} {l l' : VL} {st st' : Rd} {s s' : ASt} {t t' : LogSt} {ra rb : Nat}
theorem below (h : LqS w X p a q pb rv av lv l st s t ra rb) (k : Below X.heap.size X Y) : LqS w Y p a q pb rv av lv l st s t ra rb :=
 ⟨h.rd.below k, h.ac.below k, h.lg.below k, h.pr.of_block (k.block _ h.pr.lt), h.bel.trans (k.mono h.bel.size), h.lp, h.la, h.lq, h.lb, h.ll, h.len⟩
theorem rd_ (h : LqS w X p a q pb rv av lv l st s t ra rb) (k : RrStep X p Y rv' st') (hl : (st'.getD []).length ≤ 100000000) : LqS w Y p a q pb rv' av lv l st' s t ra rb :=
  ⟨k.at_, h.ac.fr k.fr (h.ac.blk.ne_type h.rd.blk (by decide)) (fun i e => row_ne_blk h.ac.row h.rd.blk (by decide) i e),
   h.lg.fr k.fr (h.lg.blk.ne_type h.rd.blk (by decide)) (fun i e => row_ne_blk h.lg.row h.rd.blk (by decide) i e), h.pr.fr k.fr (h.pr.ne_type h.rd.blk (by decide)),
   h.bel.trans (k.fr.below h.bel.size (fun i e => by have e : i = p := e; have := h.lp; omega)), h.lp, h.la, h.lq, h.lb, h.ll, hl⟩
theorem ac_ (h : LqS w X p a q pb rv av lv l st s t ra rb) (k : RAt Y a av' s') (hf : Fr (S1 a) X Y) : LqS w Y p a q pb rv av' lv l st s' t ra rb :=
  ⟨h.rd.fr hf (h.rd.blk.ne_type h.ac.blk (by decide)) (fun i e cur hc => by
      have e : i = a := e
      subst e
      have := (show X.heap[i]? = _ from h.ac.blk).symm.trans hc
      simp at this),
   k, h.lg.fr hf (h.lg.blk.ne_type h.ac.blk (by decide)) (fun i e => row_ne_blk h.lg.row h.ac.blk (by decide) i e), h.pr.fr hf (h.pr.ne_type h.ac.blk (by decide)),
   h.bel.trans (hf.below h.bel.size (fun i e => by have e : i = a := e; have := h.la; omega)), h.lp, h.la, h.lq, h.lb, h.ll, h.len⟩
theorem lg_ (h : LqS w X p a q pb rv av lv l st s t ra rb) (k : RLStep X q lv Y lv' l' t') : LqS w Y p a q pb rv av lv' l' st s t' ra rb := by
 have hty : ∀ i, rlF q lv i → ∀ (T : TypeId) (cs : Array Value), T ≠ 172 → T ≠ 174 → X.heap[i]? ≠ some (.cells cs T (0, 0)) := fun i e T cs h1 h2 hc => by
  rcases e with rfl | e
  ·have := (show X.heap[i]? = _ from h.lg.blk).symm.trans hc
   simp only [Option.some.injEq, Obj.cells.injEq] at this
   exact h1 this.2.1.symm
  ·obtain ⟨cur, hcur⟩ := row_blk h.lg.row i e
   have := hcur.symm.trans hc
   simp only [Option.some.injEq, Obj.cells.injEq] at this
   exact h2 this.2.1.symm
 refine ⟨h.rd.fr k.fr (fun e => hty _ e _ _ (by decide) (by decide) h.rd.blk) (fun i e cur hc => hty i e _ _ (by decide) (by decide) hc),
  h.ac.fr k.fr (fun e => hty _ e _ _ (by decide) (by decide) h.ac.blk) (fun i e1 e => ?_), k.at_, h.pr.fr k.fr (fun e => hty _ e _ _ (by decide) (by decide) h.pr),
  h.bel.trans (k.fr.below h.bel.size (fun i e => ?_)), h.lp, h.la, h.lq, h.lb, fun i e => ?_, h.len⟩
 ·obtain ⟨cur, hcur⟩ := row_blk h.ac.row i e1
  exact hty i e _ _ (by decide) (by decide) hcur
 ·rcases e with rfl | e
  ·exact h.lq
  ·exact h.ll i e
 ·rcases k.own i (.inr e) with e | e
  ·rcases e with rfl | e
   ·exact h.lq
   ·exact h.ll i e
  ·exact Nat.le_trans h.bel.size e
theorem app_ (h : LqS w X p a q pb rv av lv l st s t ra rb) {E0 : Nat} {S : Nat → Prop} (hE : w.heap.size ≤ E0) (hav : ∀ i, av.ownBlock = some i → i < E0)
  (hS : ∀ i, S i → E0 ≤ i ∧ ∃ cur, X.heap[i]? = some (.cells cur 128 (0, 0))) (hf : Fr S X Y) : LqS w Y p a q pb rv av lv l st s t ra rb := by
 have hty : ∀ i, S i → ∀ (T : TypeId) (cs : Array Value), T ≠ 128 → X.heap[i]? ≠ some (.cells cs T (0, 0)) := fun i e T cs h1 hc => by
  obtain ⟨_, cur, hcur⟩ := hS i e
  have := hcur.symm.trans hc
  simp only [Option.some.injEq, Obj.cells.injEq] at this
  exact h1 this.2.1.symm
 refine ⟨h.rd.fr hf (fun e => hty _ e _ _ (by decide) h.rd.blk) (fun i e cur hc => hty i e _ _ (by decide) hc),
  h.ac.fr hf (fun e => hty _ e _ _ (by decide) h.ac.blk) (fun i e1 e => by have := hav i e1; have := (hS i e).1; omega),
  h.lg.fr hf (fun e => hty _ e _ _ (by decide) h.lg.blk) (fun i e1 e => ?_), h.pr.fr hf (fun e => hty _ e _ _ (by decide) h.pr),
  h.bel.trans (hf.below h.bel.size (fun i e => Nat.le_trans hE (hS i e).1)), h.lp, h.la, h.lq, h.lb, h.ll, h.len⟩
 obtain ⟨cur, hcur⟩ := row_blk h.lg.row i e1
 exact hty i e _ _ (by decide) hcur
theorem len2 {most : Nat} {b : Nat} (h : LqS w X p a q pb rv av lv l st s t ra rb) (e : rdM most st = (b, st')) : (st'.getD []).length ≤ 100000000 := by
 have := rdM_len (most := most) _ h.len
 rw [e] at this
 exact this
theorem len3 {b : Nat × Nat} (h : LqS w X p a q pb rv av lv l st s t ra rb) (e : rB st = (b, st')) : (st'.getD []).length ≤ 100000000 := by
 have := rdM_len (most := 6) (s := (rdM 1073741824 st).2) _ (rdM_len (most := 1073741824) _ h.len)
 have e2 : (rB st).2 = st' := by rw [e]
 rw [← e2]
 exact this
theorem len4 {b : List UInt8} (h : LqS w X p a q pb rv av lv l st s t ra rb) (e : rdT st = (b, st')) : (st'.getD []).length ≤ 100000000 := by
 have := rdT_len _ h.len
 rw [e] at this
 exact this
theorem small (h : LqS w X p a q pb rv av lv l st s t ra rb) (c : Int) (most : Nat) (hc : (most : Int) = c) {b : Nat} (e : rdM most st = (b, st')) (hm : most < 9223372036854775808) :
  Calls Tryz.prog 91 #[.pointer (some ⟨p, 0, none⟩), .int .u64 c] X fun r Y => r = .returned (.int .i64 (b : Int)) ∧ ∃ rv', LqS w Y p a q pb rv' av lv l st' s t ra rb ∧ Fr (S1 p) X Y := by
 refine (rsmallc p c most hc rv st X h.rd h.len hm).mono ?_
 rintro r Y ⟨rv', rfl, hs⟩
 rw [e] at hs ⊢
 exact ⟨rfl, rv', h.rd_ hs (h.len2 e), hs.fr⟩
theorem bal (h : LqS w X p a q pb rv av lv l st s t ra rb) {x y : Nat} (e : rB st = ((x, y), st')) :
  Calls Tryz.prog 92 #[.pointer (some ⟨p, 0, none⟩)] X fun r Y => r = .returned (balV (x : Int) (y : Int)) ∧ ∃ rv', LqS w Y p a q pb rv' av lv l st' s t ra rb ∧ Fr (S1 p) X Y := by
 refine (rballot_any p rv st X h.rd h.len).mono ?_
 rintro r Y ⟨rv', rfl, hs⟩
 have e' := e
 unfold rB at e'
 simp only [Prod.mk.injEq] at e'
 obtain ⟨⟨e1, e2⟩, e3⟩ := e'
 rw [e3] at hs
 rw [e1, e2]
 exact ⟨rfl, rv', h.rd_ hs (h.len3 e), hs.fr⟩
theorem text (h : LqS w X p a q pb rv av lv l st s t ra rb) {b : List UInt8} (e : rdT st = (b, st')) :
  Calls Tryz.prog 93 #[.pointer (some ⟨p, 0, none⟩)] X fun r Y => r = .returned (.string (sB b)) ∧ ∃ rv', LqS w Y p a q pb rv' av lv l st' s t ra rb ∧ Fr (S1 p) X Y := by
 refine (rrtext p rv st X h.rd h.len).mono ?_
 rintro r Y ⟨rv', rfl, hs⟩
 rw [e] at hs ⊢
 exact ⟨rfl, rv', h.rd_ hs (h.len4 e), hs.fr⟩
end LqS
theorem entOk_dec {n : Int} (ra rb : Nat) (la : Int) (sl x y : Nat) (b : ByteArray) : decide (entOk n (ra, rb) la ⟨(sl : Int), (x : Int), (y : Int), b⟩) = (decide ((sl : Int) > la) && (goodB n x y && !belQ (ra : Int) (rb : Int) (x : Int) (y : Int))) := by
 rw [Bool.eq_iff_iff, decide_eq_true_iff, Bool.and_eq_true, Bool.and_eq_true, decide_eq_true_iff, Bool.not_eq_true']
 unfold entOk
 have h1 : (ordB ((x : Int), (y : Int)) ((ra : Int), (rb : Int)) ≤ 0) ↔ belQ (ra : Int) (rb : Int) (x : Int) (y : Int) = false := by
  rw [Bool.eq_false_iff, ne_eq, belQ_iff]
  have := leBal_iff ((x : Int), (y : Int)) ((ra : Int), (rb : Int))
  unfold leBal at this
  rw [this]
  show ((x : Int) < (ra : Int) ∨ (x : Int) = (ra : Int) ∧ (y : Int) ≤ (rb : Int)) ↔ _
  omega
 constructor
 ·rintro ⟨a1, a2, a3⟩
  exact ⟨a1, a2, h1.1 a3⟩
 ·rintro ⟨a1, a2, a3⟩
  exact ⟨a1, a2, h1.2 a3⟩
theorem rE_of {s s1 s2 s3 : Rd} {sl x y : Nat} {b : List UInt8} (h1 : rdM 4095 s = (sl, s1)) (h2 : rB s1 = ((x, y), s2)) (h3 : rdT s2 = (b, s3)) : rE s = (⟨(sl : Int), (x : Int), (y : Int), sB b⟩, s3) := by
 unfold rE
 rw [h1, h2, h3]
theorem rV_of {s s1 s2 : Rd} {sl : Nat} {b : List UInt8} (h1 : rdM 4095 s = (sl, s1)) (h3 : rdT s1 = (b, s2)) : rV s = (((sl : Int), sB b), s2) := by
 unfold rV
 rw [h1, h3]
end Go.Proofs.YtlfikhblmbidmaaGreatDoor
namespace Go.Proofs.YtlfikhblmbidmaaGreatDoor
open Go.RowKit Go.Maps
structure RNS (W : World) (lo a : Nat) (av : Value) (q : Nat) (lv : Value) (l : VL) (t : NSt) : Prop where
 ac : RAt W a av t.a
 lg : RLog W q lv l t.l
 la : lo ≤ a
 lq : lo ≤ q
 ll : ∀ i, lv.ownBlock = some i → lo ≤ i
def LdPost (w : World) (n : Int) (bs : List UInt8) (e : Ending) (w' : World) : Prop :=
 Below w.heap.size w w' ∧ match loadS n bs with
 | none => e = .returned (.tuple #[.pointer none, .pointer none, .bool false])
 | some t => ∃ a av q lv l, e = .returned (.tuple #[.pointer (some ⟨a, 0, none⟩), .pointer (some ⟨q, 0, none⟩), .bool true]) ∧ RNS w' w.heap.size a av q lv l t
theorem LdPost.no {w w' : World} {n : Int} {bs : List UInt8} (h : loadS n bs = none) (hb : Below w.heap.size w w') : LdPost w n bs (.returned (.tuple #[.pointer none, .pointer none, .bool false])) w' := by
 unfold LdPost
 rw [h]
 exact ⟨hb, rfl⟩
theorem LdPost.yes {w w' : World} {n : Int} {bs : List UInt8} {t : NSt} {a q : Nat} {av lv : Value} {l : VL} (h : loadS n bs = some t) (hb : Below w.heap.size w w') (hr : RNS w' w.heap.size a av q lv l t) : LdPost w n bs (.returned (.tuple #[.pointer (some ⟨a, 0, none⟩), .pointer (some ⟨q, 0, none⟩), .bool true])) w' := by
 unfold LdPost
 rw [h]
 exact ⟨hb, a, av, q, lv, l, rfl, hr⟩
theorem bldEn (k : Int) (w : World) : (Instr.build 128 #[(0, .int .i64 k)]).run Tryz.prog w = .ok (entV k (0, 0, ⟨#[]⟩)) w := run_build w 128 _ _ (by kernel_rfl)
theorem rbalQ {p : Nat} {rv : Value} {s s' : Rd} {x y : Nat} {X : World} (h : RrAt X p rv s) (hl : (s.getD []).length ≤ 100000000) (e : rB s = ((x, y), s')) :
  Calls Tryz.prog 92 #[.pointer (some ⟨p, 0, none⟩)] X fun r Y => r = .returned (balV (x : Int) (y : Int)) ∧ ∃ rv', RrStep X p Y rv' s' := by
 refine (rballot_any p rv s X h hl).mono ?_
 rintro r Y ⟨rv', rfl, hs⟩
 unfold rB at e
 simp only [Prod.mk.injEq] at e
 obtain ⟨⟨e1, e2⟩, e3⟩ := e
 rw [e3] at hs
 rw [e1, e2]
 exact ⟨rfl, rv', hs⟩
set_option maxRecDepth 100000 in
set_option maxHeartbeats 16000000 in
theorem rload_any (n : Int) (hn : okN n) (v : Value) (bs : List UInt8) (w : World) (hv : BsIn w v bs) (hl : bs.length ≤ 100000000) :
  Calls Tryz.prog 103 #[.int .i64 n, v] w (LdPost w n bs) := by
 obtain ⟨q0, hq⟩ := lqR (some bs)
 have HQ := Lib.hid hq
 obtain ⟨⟨ra, rb⟩, b0, k, es, c, m, hs, s2, s3, s4, s5, s6, s7, st⟩ := q0
 have E1 : Hid (rB (some bs) = ((ra, rb), s2)) := hq.e1
 have E2 : Hid (rdM 4096 s2 = (b0, s3)) := hq.e2
 have E3 : Hid (rdM 4096 s3 = (k, s4)) := hq.e3
 have E4 : Hid (rEs k s4 = (es, s5)) := hq.e4
 have E5 : Hid (rdM 4096 s5 = (c, s6)) := hq.e5
 have E6 : Hid (rdM 4096 s6 = (m, s7)) := hq.e6
 have E7 : Hid (rVs m s7 = (hs, st)) := hq.e7
 have hb0 : b0 ≤ 4096 := by have := rdM_le 4096 s2; rw [E2.out] at this; exact this
 have hk : k ≤ 4096 := by have := rdM_le 4096 s3; rw [E3.out] at this; exact this
 have hc : c ≤ 4096 := by have := rdM_le 4096 s5; rw [E5.out] at this; exact this
 have hm : m ≤ 4096 := by have := rdM_le 4096 s6; rw [E6.out] at this; exact this
 clear hq
 have hE := fun (a b c d : Int) (w : World) => eqBal a b c d w
 have hG := eqGBal
 have hB0 := fun w => bldBal0 w
 have HR := Lib.hid (rrread v bs w hv hl)
 have HN := Lib.hid hn
 obtain ⟨A0, c0, rfl, _⟩ := hv.shape
 clear hv hn
 go_enter Tryz.func103, Tryz.ntmps103
 go_upto_region 5 with (first
  | (go_at_call 90; refine HR.out.mono ?_; rintro e w1 ⟨p, rv, rfl, hr, hp, hb⟩; have R1 := Lib.hid hr; have B1 := Lib.hid hb; have HP := Lib.hid hp; clear hr hb hp)
  | (go_at_call 100; refine (rnew_yes n _ HN.out).mono ?_; rintro e w2 ⟨a, rfl, ha, hla, hb⟩; have A2 := Lib.hid ha; have R2 := Lib.hid (R1.out.below hb); have B2 := Lib.hid (bchain B1.out hb); have HLA := Lib.hid (Nat.le_trans B1.out.size hla); clear ha hb hla)
  | (go_at_call 101; refine (rlnew_any _).mono ?_; rintro e w3 ⟨q, rfl, hg, hlq, hb⟩; have G3 := Lib.hid hg; have A3 := Lib.hid (A2.out.below hb); have R3 := Lib.hid (R2.out.below hb); have B3 := Lib.hid (bchain B2.out hb); have HLQ := Lib.hid (Nat.le_trans B2.out.size hlq); clear hg hb hlq)
  | (go_at_call 92; refine (rbalQ R3.out hl E1.out).mono ?_; rintro e w4 ⟨rfl, rv4, hs4⟩; have R4 := Lib.hid hs4; clear hs4))
 have L5 : LqS w (w4.alloc (.cells #[.int .i64 (ra : Int), .int .i64 (rb : Int)] 24)) p a q w4.heap.size rv4 (.slice none 0 0) (.slice none 0 0) [] s2 (newS n) newLog ra rb := by
  have hb := box_below w4 (.cells #[.int .i64 (ra : Int), .int .i64 (rb : Int)] 24)
  have hb4 : Below w.heap.size w w4 := B3.out.trans (R4.out.fr.below B3.out.size (fun i e => by have e : i = p := e; have := HP.out; omega))
  have a4 := A3.out.fr R4.out.fr (A3.out.blk.ne_type R3.out.blk (by decide)) (fun i e => by cases e)
  have g4 := G3.out.fr R4.out.fr (G3.out.blk.ne_type R3.out.blk (by decide)) (fun i e => by cases e)
  refine ⟨R4.out.at_.below hb, a4.below hb, g4.below hb, Blk.new _ _ _, bchain hb4 hb, HP.out, HLA.out, HLQ.out, hb4.size, fun i e => (by cases e), ?_⟩
  have := rdM_len (most := 6) (s := (rdM 1073741824 (some bs)).2) _ (rdM_len (most := 1073741824) (s := some bs) _ hl)
  have e2 : (rB (some bs)).2 = s2 := by rw [E1.out]
  rw [← e2]
  exact this
 have L5 := Lib.hid L5
 obtain ⟨pb, hpb⟩ : ∃ pb, w4.heap.size = pb := ⟨_, rfl⟩
 rw [hpb] at L5 ⊢
 generalize (w4.alloc (.cells #[.int .i64 (ra : Int), .int .i64 (rb : Int)] 24)) = W5 at *
 clear R1 B1 HP A2 R2 B2 HLA G3 A3 R3 B3 HLQ R4 HR hpb
 have hfo := newN_a n b0 hb0
 have HFO1 := Lib.hid hfo.1
 have HFO2 := Lib.hid hfo.2
 clear hfo
 have TK := trivial
 go_upto_region 8 with (first
  | (go_at_call 91; have _t := TK; (with_reducible refine (L5.out.small 4096 4096 rfl E2.out (by decide)).mono ?_); rintro e W6 ⟨rfl, rv6, hs, _⟩; have L6 := Lib.hid hs; clear hs TK)
  | (go_at_call 91; (with_reducible refine (L6.out.small 4096 4096 rfl E3.out (by decide)).mono ?_); rintro e W7 ⟨rfl, rv7, hs, _⟩; have L7 := Lib.hid hs; clear hs)
  | (go_at_call 45; refine (rforget_any a _ _ (b0 : Int) _ L7.out.ac).mono ?_; rintro e W8 ⟨av8, rfl, ha, hf⟩; rw [HFO2.out] at ha; have L8 := Lib.hid (L7.out.ac_ ha hf); clear ha hf))
 have hpr := L8.out.pr
 have p0 := hpr.cell (i := 0) rfl
 have p1 := hpr.cell (i := 1) rfl
 clear hpr L5 L6 L7
 have HOK1 : ∃ ok1 : Bool, (decide (ra = 0 ∧ rb = 0) || goodB n ra rb) = ok1 := ⟨_, rfl⟩
 obtain ⟨ok1, hok1⟩ := HOK1
 have HOK := Lib.hid hok1
 go_cut [14] (fun c14 wx => c14 = .bool ok1 ∧ Below W8.heap.size W8 wx)
 case first =>
  by_cases hz : ra = 0 ∧ rb = 0
  ·have hz' : ((ra : Int) == 0 && (rb : Int) == 0) = true := by simp; omega
   have hv1 : ok1 = true := by rw [← hok1, decide_eq_true hz]; rfl
   go_wp2_with fail
   go_meet
   exact ⟨by rw [hv1], Below.refl _ _⟩
  ·have hz' : ((ra : Int) == 0 && (rb : Int) == 0) = false := by
    rw [Bool.eq_false_iff]
    intro h
    simp at h
    omega
   have hv1 : goodB n ra rb = ok1 := by rw [← hok1, decide_eq_false hz]; rfl
   have HVL := Lib.hid (fun X => rvalid_any (ra : Int) (rb : Int) n X)
   rw [valQ_good HN.out, hv1] at HVL
   go_wp2_with (go_at_call 170; refine (HVL.out _).mono ?_; rintro e w9 ⟨rfl, hb⟩; have B9 := Lib.hid hb; clear hb)
   go_meet
   exact ⟨rfl, B9.out⟩
 case rest =>
 obtain ⟨rfl, hbc⟩ := hcut
 rename World => W9
 have L9 := Lib.hid (L8.out.below hbc)
 obtain ⟨E0, hE0⟩ : ∃ E0, W9.heap.size = E0 := ⟨_, rfl⟩
 have hwE : w.heap.size ≤ E0 := by rw [← hE0]; exact L9.out.bel.size
 have HAV : Hid (∀ i, av8.ownBlock = some i → i < E0) := fun i e => by rw [← hE0]; exact (L9.out.ac.row.lt i e).2
 have HE0 := Lib.hid hE0
 clear hbc p0 p1 hok1 hE0 L8
 obtain ⟨i0, hi, hz0, hz1, hz2⟩ := info_parts info_ent
 have HI := Lib.hid hi
 have HZ0 := Lib.hid hz0
 have HZ1 := Lib.hid hz1
 have HZ2 := Lib.hid hz2
 clear hi hz0 hz1 hz2
 go_upto_region 12 with fail
 have hBE := fun (k : Int) (w : World) => bldEn k w
 go_loopw [14, 15, 16, 17] (fun v14 v15 v16 v17 wr => ∃ (i : Nat) (D : List Et) (sti : Rd) (rvi : Value) (oki : Bool) (la : Int), i ≤ k ∧ v17 = .int .i64 (i : Int) ∧ v16 = .int .i64 la ∧ v14 = .bool oki ∧ wr.ownsRow E0 128 4 v15 i (cellsE (toEL D)) ∧ D.length = i ∧ -1 ≤ la ∧ la ≤ 4096 ∧ E0 ≤ wr.heap.size ∧
   (rEs k s4).1 = D ++ (rEs (k - i) sti).1 ∧ (rEs k s4).2 = (rEs (k - i) sti).2 ∧ (oki && entQ n (ra, rb) la (rEs (k - i) sti).1) = (ok1 && entQ n (ra, rb) ((b0 : Int) - 1) es) ∧ LqS w wr p a q pb rvi av8 (.slice none 0 0) [] sti ⟨n, 0, 0, (b0 : Int), []⟩ newLog ra rb) (fun _ _ _ c _ => k - (intOf c).toNat)
 case atStart => exact ⟨0, [], s4, rv7, ok1, (b0 : Int) - 1, Nat.zero_le _, rfl, rfl, rfl, World.ownsRow_nil _ _ _ _, rfl, by omega, by omega, Nat.le_of_eq HE0.out.symm, by simp, by simp, by rw [Nat.sub_zero, E4.out], L9.out⟩
 case round =>
  obtain ⟨i, D, sti, rvi, oki, la, hi, rfl, rfl, rfl, hrow, hDl, hla1, hla2, hXE, hR1, hR2, hQ, hL⟩ := hrel
  rename World => X
  have HROW := Lib.hid hrow
  have HDL := Lib.hid hDl
  have HR1 := Lib.hid hR1
  have HR2 := Lib.hid hR2
  have HQ1 := Lib.hid hQ
  have L := Lib.hid hL
  obtain ⟨A15, c15, rfl⟩ := row_len hrow
  clear hrow hDl hR1 hR2 hQ hL
  by_cases hlt : i < k
  ·obtain ⟨⟨sl, t1⟩, f1⟩ : ∃ z, rdM 4095 sti = z := ⟨_, rfl⟩
   obtain ⟨⟨⟨x, y⟩, t2⟩, f2⟩ : ∃ z, rB t1 = z := ⟨_, rfl⟩
   obtain ⟨⟨tx, t3⟩, f3⟩ : ∃ z, rdT t2 = z := ⟨_, rfl⟩
   have hE3 := rE_of f1 f2 f3
   have hks : k - i = (k - (i + 1)) + 1 := by omega
   have hs1 : rEs (k - i) sti = (⟨(sl : Int), (x : Int), (y : Int), sB tx⟩ :: (rEs (k - (i + 1)) t3).1, (rEs (k - (i + 1)) t3).2) := by rw [hks]; simp only [rEs, hE3]
   have hsl : sl ≤ 4095 := by have := rdM_le 4095 sti; rw [f1] at this; exact this
   have F1 := Lib.hid f1
   have F2 := Lib.hid f2
   have F3 := Lib.hid f3
   have HS1 := Lib.hid hs1
   obtain ⟨okn, hokn⟩ : ∃ okn, (oki && decide (entOk n (ra, rb) la ⟨(sl : Int), (x : Int), (y : Int), sB tx⟩)) = okn := ⟨_, rfl⟩
   have HOKN := Lib.hid hokn
   clear f1 f2 f3 hE3 hks hs1 hokn
   have TK := trivial
   go_upto_region 15 with (go_at_call 91; (with_reducible refine (L.out.small 4095 4095 rfl F1.out (by decide)).mono ?_); rintro e X1 ⟨rfl, rv1, hs, hf⟩; have L1 := Lib.hid hs; have W1 := Lib.hid (row_fr HROW.out hf (fun g hg e => row_ne_blk HROW.out L.out.rd.blk (by decide) g hg e)); have HSZ := Lib.hid hf.size; clear hs hf)
   have hX1 : X.heap.size ≤ X1.heap.size := HSZ.out
   have L2 := Lib.hid (L1.out.below (box_below X1 (.cells #[.int .i64 (sl : Int), .int .i64 0, .int .i64 0, .string ⟨#[]⟩] 128)))
   have K2 := Lib.hid (Blk.new X1 128 #[.int .i64 (sl : Int), .int .i64 0, .int .i64 0, .string ⟨#[]⟩])
   have W2 := Lib.hid (World.ownsRow.alloc W1.out (.cells #[.int .i64 (sl : Int), .int .i64 0, .int .i64 0, .string ⟨#[]⟩] 128))
   obtain ⟨bx, hbx⟩ : ∃ bx, X1.heap.size = bx := ⟨_, rfl⟩
   have hW1lt : ∀ g, (Value.slice A15 i c15).ownBlock = some g → g < bx := fun g e => by rw [← hbx]; exact (W1.out.lt g e).2
   have HWlt := Lib.hid hW1lt
   rw [hbx] at K2 ⊢
   have hbE : E0 ≤ bx := by omega
   generalize (X1.alloc (.cells #[.int .i64 (sl : Int), .int .i64 0, .int .i64 0, .string ⟨#[]⟩] 128)) = X2 at *
   clear L1 W1 hbx HSZ hX1 hW1lt
   go_upto_region 16 with (go_at_call 92; refine (L2.out.bal F2.out).mono ?_; rintro e X3 ⟨rfl, rv3, hs, hf⟩; have L3 := Lib.hid hs; have K3 := Lib.hid (K2.out.fr hf (K2.out.ne_type L2.out.rd.blk (by decide))); have W3 := Lib.hid (row_fr W2.out hf (fun g hg e => row_ne_blk W2.out L2.out.rd.blk (by decide) g hg e)); have z1 := K3.out.cell (i := 1) rfl; have z2 := K3.out.cell (i := 2) rfl; have g1 := K3.out.frozen 1; have g2 := K3.out.frozen 2; clear hs hf)
   have fs := (fr_set X3 bx 1 (.int .i64 (x : Int))).trans (fr_set _ bx 2 (.int .i64 (y : Int)))
   have L4 := Lib.hid (L3.out.app_ hwE HAV.out (S := S1 bx) (fun j e => by have e : j = bx := e; subst e; exact ⟨hbE, _, K3.out⟩) fs)
   have K4 := Lib.hid ((K3.out.set 1 (.int .i64 (x : Int))).set 2 (.int .i64 (y : Int)))
   have W4 := Lib.hid (row_fr W3.out fs (fun g hg e => by have e : g = bx := e; have := HWlt.out g hg; omega))
   clear L2 K2 W2 L3 K3 W3 z1 z2 g1 g2 fs
   generalize ((X3.setCell ⟨bx, 1, none⟩ (.int .i64 (x : Int))).setCell ⟨bx, 2, none⟩ (.int .i64 (y : Int))) = X4 at *
   go_upto_region 17 with (go_at_call 93; refine (L4.out.text F3.out).mono ?_; rintro e X5 ⟨rfl, rv5, hs, hf⟩; have L5 := Lib.hid hs; have K5 := Lib.hid (K4.out.fr hf (K4.out.ne_type L4.out.rd.blk (by decide))); have W5 := Lib.hid (row_fr W4.out hf (fun g hg e => row_ne_blk W4.out L4.out.rd.blk (by decide) g hg e)); have z3 := K5.out.cell (i := 3) rfl; have g3 := K5.out.frozen 3; clear hs hf)
   have fs := fr_set X5 bx 3 (.string (sB tx))
   have L6 := Lib.hid (L5.out.app_ hwE HAV.out (S := S1 bx) (fun j e => by have e : j = bx := e; subst e; exact ⟨hbE, _, K5.out⟩) fs)
   have K6 := Lib.hid (K5.out.set 3 (.string (sB tx)))
   have W6 := Lib.hid (row_fr W5.out fs (fun g hg e => by have e : g = bx := e; have := HWlt.out g hg; omega))
   clear L4 K4 W4 L5 K5 W5 z3 g3 fs
   generalize (X5.setCell ⟨bx, 3, none⟩ (.string (sB tx))) = X6 at *
   have e0 := K6.out.cell (i := 0) (v := .int .i64 (sl : Int)) rfl
   have e1 := K6.out.cell (i := 1) (v := .int .i64 (x : Int)) rfl
   have e2 := K6.out.cell (i := 2) (v := .int .i64 (y : Int)) rfl
   have p0 := L6.out.pr.cell (i := 0) (v := .int .i64 (ra : Int)) rfl
   have p1 := L6.out.pr.cell (i := 1) (v := .int .i64 (rb : Int)) rfl
   have hokd := HOKN.out
   rw [entOk_dec] at hokd
   go_cut [14] (fun c14 wx => c14 = .bool okn ∧ Below X6.heap.size X6 wx)
   case first =>
    cases oki with
    | false =>
     have hv1 : okn = false := by rw [← hokd]; rfl
     have HV1 := Lib.hid hv1
     clear hv1 hokd
     go_wp2_with fail
     go_meet
     exact ⟨by rw [HV1.out], Below.refl _ _⟩
    | true =>
     by_cases h1 : (sl : Int) > la
     ·have h1' : decide ((sl : Int) > la) = true := by simpa using h1
      rw [h1'] at hokd
      have HVL := Lib.hid (fun X => rvalid_any (x : Int) (y : Int) n X)
      rw [valQ_good HN.out] at HVL
      have HVB := Lib.hid (fun X => rbelow_any (ra : Int) (rb : Int) (x : Int) (y : Int) X)
      cases hg : goodB n x y with
      | false =>
       rw [hg] at hokd HVL
       have hv1 : okn = false := by rw [← hokd]; rfl
       have HV1 := Lib.hid hv1
       clear hv1 hokd hg h1
       go_wp2_with (go_at_call 170; refine (HVL.out _).mono ?_; rintro e w9 ⟨rfl, hb⟩; have B9 := Lib.hid hb; clear hb)
       go_meet
       exact ⟨by rw [HV1.out], B9.out⟩
      | true =>
       rw [hg] at hokd HVL
       obtain ⟨bq, hbq⟩ : ∃ bq, belQ (ra : Int) (rb : Int) (x : Int) (y : Int) = bq := ⟨_, rfl⟩
       rw [hbq] at hokd HVB
       have hv1 : okn = !bq := by rw [← hokd]; simp
       have HV1 := Lib.hid hv1
       clear hv1 hokd hg h1 hbq
       go_wp2_with (first
        | (go_at_call 170; refine (HVL.out _).mono ?_; rintro e w9 ⟨rfl, hb⟩; have B9 := Lib.hid hb; have y1 := bcell hb e1; have y2 := bcell hb e2; have y3 := bcell hb p0; have y4 := bcell hb p1; clear hb)
        | (go_at_call 178; refine (HVB.out _).mono ?_; rintro e w10 ⟨rfl, hb⟩; have B10 := Lib.hid (bchain B9.out hb); clear hb))
       go_meet
       exact ⟨by rw [HV1.out], B10.out⟩
     ·have h1' : decide ((sl : Int) > la) = false := by simpa using h1
      have hv1 : okn = false := by rw [← hokd, h1']; rfl
      have HV1 := Lib.hid hv1
      clear hv1 hokd h1
      go_wp2_with fail
      go_meet
      exact ⟨by rw [HV1.out], Below.refl _ _⟩
   case rest =>
   obtain ⟨rfl, hbc⟩ := hcut
   rename World => X7
   have L7 := Lib.hid (L6.out.below hbc)
   have K7 := Lib.hid (K6.out.of_block (hbc.block _ K6.out.lt))
   have W7 := Lib.hid (row_fr W6.out (Fr.of_below hbc : Fr S0 _ _) (fun g _ e => e))
   have hE7 : E0 ≤ X7.heap.size := Nat.le_trans hbE (Nat.le_of_lt K7.out.lt)
   have d0 := K7.out.cell (i := 0) (v := .int .i64 (sl : Int)) rfl
   have d1 := K7.out.cell (i := 1) (v := .int .i64 (x : Int)) rfl
   have d2 := K7.out.cell (i := 2) (v := .int .i64 (y : Int)) rfl
   have d3 := K7.out.cell (i := 3) (v := .string (sB tx)) rfl
   clear hbc hokd e0 e1 e2 p0 p1 L6 K6 W6
   go_wp2_with (at_builtin; go_must (refine wpList_app rfl _ _ 67 rfl E0 128 i0 (entV 0 (0, 0, ⟨#[]⟩)) 4 40 Tryz.underlying67 HI.out HZ0.out HZ1.out HZ2.out rfl (by decide) _ _ _ rfl (World.ownsRow.alloc W7.out _) (some ⟨X7.heap.size, 0, none⟩) 1 1 (entCells ((sl : Int), (x : Int), (y : Int), sB tx)) rfl (by simp) (by omega) (reads_new _ _ (entCells ((sl : Int), (x : Int), (y : Int), sB tx)) 1 4 rfl) (entCells_one _) (by unfold maxLen; omega) (by omega) (by simp; omega) ?_); intro v' X8 hown hgrow _)
   have hf8 : Fr (fun g => (Value.slice A15 i c15).ownBlock = some g) X7 X8 := ((Fr.refl _ X7).alloc _).trans' (Fr.of_grown (S := fun g => (Value.slice A15 i c15).ownBlock = some g) hgrow (fun i e => e)) (fun i _ e => e)
   have L8 := Lib.hid (L7.out.app_ hwE HAV.out (S := fun g => (Value.slice A15 i c15).ownBlock = some g) (fun j e => ⟨(W7.out.lt j e).1, row_blk W7.out j e⟩) hf8)
   have HOWN := Lib.hid hown
   have hE8 : E0 ≤ X8.heap.size := Nat.le_trans hE7 hf8.size
   clear hown hgrow hf8 d0 d1 d2 d3 L7 K7 W7
   go_wp2_with fail
   go_roundw
   case rel =>
    refine ⟨i + 1, D ++ [⟨(sl : Int), (x : Int), (y : Int), sB tx⟩], t3, rv5, okn, (sl : Int), hlt, by go_num, rfl, rfl, ?_, by rw [List.length_append, HDL.out]; rfl, by omega, by omega, hE8, ?_, ?_, ?_, L8.out⟩
    ·rw [toEL_append, cellsE_append]
     exact HOWN.out
    ·rw [HR1.out, HS1.out]
     simp
    ·rw [HR2.out, HS1.out]
    ·rw [← HQ1.out, HS1.out, ← HOKN.out]
     simp only [entQ, Bool.and_assoc]
   case measure => simp [intOf]; omega
  ·have hik : i = k := by omega
   have hes : es = D := by
    have := HR1.out
    rw [E4.out, hik, Nat.sub_self] at this
    simpa [rEs] using this
   have hst : s5 = sti := by
    have := HR2.out
    rw [E4.out, hik, Nat.sub_self] at this
    exact this
   have hok2 : oki = (ok1 && entQ n (ra, rb) ((b0 : Int) - 1) es) := by
    have := HQ1.out
    rw [hik, Nat.sub_self] at this
    rw [← this]
    simp [rEs, entQ]
   have HOK2 := Lib.hid hok2
   have hDk : D.length = k := by rw [HDL.out, hik]
   subst hes hst
   have HDK := Lib.hid hDk
   have VE := Lib.hid (show EntRow X E0 (.slice A15 es.length c15) (toEL es) by unfold EntRow; rw [toEL_len, HDL.out]; exact HROW.out)
   have hil : i = es.length := HDL.out.symm
   have hki : k = es.length := hDk.symm
   have hkl : ¬ es.length < es.length := by omega
   clear hok2 hDk HROW HR1 HR2 HQ1 HDL hlt hi
   subst hik
   subst hil
   have TK := trivial
   go_upto_region 25 with (first
    | (go_at_call 91; have _t := TK; (with_reducible refine (L.out.small 4096 4096 rfl E5.out (by decide)).mono ?_); rintro e X1 ⟨rfl, rv1, hs1, hf⟩; have L1 := Lib.hid hs1; have V1 := Lib.hid (row_fr VE.out hf (fun g hg e => row_ne_blk VE.out L.out.rd.blk (by decide) g hg e)); clear hs1 hf TK)
    | (go_at_call 91; (with_reducible refine (L1.out.small 4096 4096 rfl E6.out (by decide)).mono ?_); rintro e X2 ⟨rfl, rv2, hs1, hf⟩; have L2 := Lib.hid hs1; have V2 := Lib.hid (row_fr V1.out hf (fun g hg e => row_ne_blk V1.out L1.out.rd.blk (by decide) g hg e)); clear hs1 hf)
    | (go_at_call 179; refine (rljmp_any (c : Int) L2.out.lg).mono ?_; rintro e X3 ⟨rfl, lv3, l3, hs3⟩; have L3 := Lib.hid (L2.out.lg_ hs3); have V3 := Lib.hid (row_fr V2.out hs3.fr (fun g hg e => by rcases e with e | e; exact row_ne_blk V2.out L2.out.lg.blk (by decide) g hg e; cases e)); clear hs3))
   clear L VE L1 V1 L2 V2
   go_loopw [14, 16, 20] (fun v14 v16 v20 wr => ∃ (j : Nat) (stj : Rd) (rvj lvj : Value) (lj : VL) (tj : LogSt) (okj : Bool) (lb : Int), j ≤ m ∧ v20 = .int .i64 (j : Int) ∧ v16 = .int .i64 lb ∧ v14 = .bool okj ∧ -1 ≤ lb ∧ lb ≤ 4096 ∧ EntRow wr E0 (.slice A15 es.length c15) (toEL es) ∧
     (rVs m s7).2 = (rVs (m - j) stj).2 ∧ (okj && hasQ lb (rVs (m - j) stj).1) = (oki && hasQ ((c : Int) - 1) hs) ∧ lpFold tj (rVs (m - j) stj).1 = lpFold (ljmpS newLog (c : Int)) hs ∧ LqS w wr p a q pb rvj av8 lvj lj stj ⟨n, 0, 0, (b0 : Int), []⟩ tj ra rb) (fun _ _ c _ => m - (intOf c).toNat)
   case atStart => exact ⟨0, s7, rv2, lv3, l3, ljmpS newLog (c : Int), oki, (c : Int) - 1, Nat.zero_le _, rfl, rfl, rfl, by omega, by omega, V3.out, by simp, by rw [Nat.sub_zero, E7.out], by rw [Nat.sub_zero, E7.out], L3.out⟩
   case round =>
    obtain ⟨j, stj, rvj, lvj, lj, tj, okj, lb, hj, rfl, rfl, rfl, hlb1, hlb2, hve, hR2, hQ, hF, hL⟩ := hrel
    rename World => Y
    have VE := Lib.hid hve
    have HR2 := Lib.hid hR2
    have HQ2 := Lib.hid hQ
    have HF2 := Lib.hid hF
    have L := Lib.hid hL
    clear hve hR2 hQ hF hL
    by_cases hlt : j < m
    ·obtain ⟨⟨sl, t1⟩, f1⟩ : ∃ z, rdM 4095 stj = z := ⟨_, rfl⟩
     obtain ⟨⟨tx, t2⟩, f3⟩ : ∃ z, rdT t1 = z := ⟨_, rfl⟩
     have hE3 := rV_of f1 f3
     have hks : m - j = (m - (j + 1)) + 1 := by omega
     have hs1 : rVs (m - j) stj = (((sl : Int), sB tx) :: (rVs (m - (j + 1)) t2).1, (rVs (m - (j + 1)) t2).2) := by rw [hks]; simp only [rVs, hE3]
     have hsl : sl ≤ 4095 := by have := rdM_le 4095 stj; rw [f1] at this; exact this
     have F1 := Lib.hid f1
     have F3 := Lib.hid f3
     have HS1 := Lib.hid hs1
     obtain ⟨okn, hokn⟩ : ∃ okn, (okj && decide (lb < (sl : Int))) = okn := ⟨_, rfl⟩
     have HOKN := Lib.hid hokn
     clear f1 f3 hE3 hks hs1
     go_upto_region 29 with (first
      | (go_at_call 91; (with_reducible refine (L.out.small 4095 4095 rfl F1.out (by decide)).mono ?_); rintro e Y1 ⟨rfl, rv1, hs1, hf⟩; have L1 := Lib.hid hs1; have V1 := Lib.hid (row_fr VE.out hf (fun g hg e => row_ne_blk VE.out L.out.rd.blk (by decide) g hg e)); clear hs1 hf)
      | (go_at_call 93; refine (L1.out.text F3.out).mono ?_; rintro e Y2 ⟨rfl, rv2, hs1, hf⟩; have L2 := Lib.hid hs1; have V2 := Lib.hid (row_fr V1.out hf (fun g hg e => row_ne_blk V1.out L1.out.rd.blk (by decide) g hg e)); clear hs1 hf))
     go_cut [14] (fun c14 wx => c14 = .bool okn ∧ wx = Y2)
     case first =>
      cases okj with
      | false =>
       have hv1 : okn = false := by rw [← hokn]; rfl
       have HV1 := Lib.hid hv1
       clear hv1 hokn
       go_wp2_with fail
       go_meet
       exact ⟨by rw [HV1.out], rfl⟩
      | true =>
       have hdg2 : decide ((sl : Int) > lb) = okn := by rw [← hokn]; rfl
       clear hokn
       go_wp2_with fail
       go_meet
       exact ⟨rfl, rfl⟩
     case rest =>
     obtain ⟨rfl, hw⟩ := hcut
     subst hw
     clear hokn
     go_wp2_with (go_at_call 43; refine (rlput_any (sl : Int) (sB tx) L2.out.lg).mono ?_; rintro e Y3 ⟨rfl, lv4, l4, hs4⟩; have L4 := Lib.hid (L2.out.lg_ hs4); have V4 := Lib.hid (row_fr V2.out hs4.fr (fun g hg e => by rcases e with e | e; exact row_ne_blk V2.out L2.out.lg.blk (by decide) g hg e; obtain ⟨c1, h1⟩ := row_blk V2.out g hg; obtain ⟨c2, h2⟩ := row_blk L2.out.lg.row g e; have := h1.symm.trans h2; simp at this)); clear hs4)
     refine ⟨⟨j + 1, t2, rv2, lv4, l4, lputS tj (sl : Int) (sB tx), okn, (sl : Int), hlt, by go_num, rfl, rfl, by omega, by omega, V4.out, by rw [HR2.out, HS1.out], ?_, ?_, L4.out⟩, by simp [intOf]; omega⟩
     ·rw [← HQ2.out, HS1.out, ← HOKN.out]
      simp only [hasQ, Bool.and_assoc]
     ·rw [← HF2.out, HS1.out]
      rfl
    ·have hjm : j = m := by omega
     have hst : st = stj := by
      have := HR2.out
      rw [E7.out, hjm, Nat.sub_self] at this
      exact this
     have hok3 : okj = (oki && hasQ ((c : Int) - 1) hs) := by
      have := HQ2.out
      rw [hjm, Nat.sub_self] at this
      rw [← this]
      simp [rVs, hasQ]
     have htj : tj = lpFold (ljmpS newLog (c : Int)) hs := by
      have := HF2.out
      rw [hjm, Nat.sub_self] at this
      rw [← this]
      rfl
     subst hst
     have HOKF : Hid (okj = (⟨(ra, rb), b0, es.length, es, c, m, hs, s2, s3, s4, s5, s6, s7, st⟩ : LdQ).ok n) := by
      rw [Hid, hok3, HOK2.out, ← HOK.out]
      simp only [LdQ.ok, Bool.and_assoc]
     have HTJ := Lib.hid htj
     clear HR2 HQ2 HF2 hok3 htj hlt
     subst hjm
     have HENDR := Lib.hid (rrend p rvj st _ L.out.rd)
     cases okj with
     | false =>
      have HNO := Lib.hid (loadS_no (n := n) HQ.out (fun h => by rw [← HOKF.out] at h; cases h.1))
      go_wp2_with fail
      go_returns
      exact LdPost.no HNO.out L.out.bel
     | true =>
      by_cases hend : endE st = 0
      ·obtain ⟨lf, hlf, hS, hEn⟩ := loadS_yes (n := n) HQ.out HOKF.out.symm hend
       have HSY := Lib.hid hS
       have HEN := Lib.hid hEn
       have hlf2 : tj = lf := HTJ.out.trans (lpFold_of _ _ _ hlf)
       have HACC := Lib.hid (raccepted_any (.slice A15 es.length c15) es L.out.ac (row_lower VE.out (Nat.zero_le _)) hEn.ok hk)
       have hend' : (endE st != 0) = false := by rw [hend]; rfl
       subst hlf2
       clear hend hlf hS hEn
       go_upto_region 35 with (first
        | (go_at_call 94; refine HENDR.out.mono ?_; rintro e Y9 ⟨rfl, rfl⟩)
        | (go_at_call 180; refine HACC.out.mono ?_; rintro e Y8 ⟨rfl, av9, R, hperm, hsort, ha, hf⟩; have L8 := Lib.hid (L.out.ac_ ha hf); have HPERM := Lib.hid hperm; have HSORT := Lib.hid hsort; clear ha hf hperm hsort))
       obtain ⟨r9, d9, heq, hle, hnil⟩ := acFold_all hb0 HEN.out HPERM.out HSORT.out
       have L9 := Lib.hid (by have := L8.out; rw [heq] at this; exact this)
       have HLE := Lib.hid hle
       have HNIL := Lib.hid hnil
       have p0 := L9.out.pr.cell (i := 0) (v := .int .i64 (ra : Int)) rfl
       have p1 := L9.out.pr.cell (i := 1) (v := .int .i64 (rb : Int)) rfl
       clear L8 heq hle hnil
       by_cases hz : ra = 0 ∧ rb = 0
       ·have hz' : ((ra : Int) == 0 && (rb : Int) == 0) = true := by simp; omega
        have hen0 : es = [] := by
         have := HEN.out
         obtain ⟨h1, h2⟩ := hz
         simp only [h1, h2] at this
         exact entsQ_zero this
        have hR0 : R = [] := by
         have := HPERM.out
         rw [hen0] at this
         exact this.nil_eq.symm
        obtain ⟨hr0, hd0⟩ := HNIL.out hR0
        have L10 : Hid (RNS Y8 w.heap.size a av9 q lvj lj ⟨⟨n, (ra : Int), (rb : Int), (b0 : Int), toEL es⟩, tj⟩) := by
         have h := L9.out
         refine ⟨?_, h.lg, h.la, h.lq, h.ll⟩
         have h2 := h.ac
         rw [hr0, hd0] at h2
         rw [hz.1, hz.2]
         exact h2
        have BL := Lib.hid L9.out.bel
        clear hz hen0 hR0 hr0 hd0
        go_wp2_with fail
        go_returns
        exact LdPost.yes HSY.out BL.out L10.out
       ·have hz' : ((ra : Int) == 0 && (rb : Int) == 0) = false := by
         rw [Bool.eq_false_iff]
         intro h
         simp at h
         omega
        have hgd : goodB n ra rb = true := by
         have := HOKF.out
         simp only [LdQ.ok, decide_eq_false hz, Bool.false_or] at this
         cases hg : goodB n ra rb
         ·rw [hg] at this; cases this
         ·rfl
        have hpe : prE (⟨n, r9, d9, (b0 : Int), toEL es⟩ : ASt) ra rb 0 = 0 := promE_zero.2 ⟨hgd, by decide, by decide, HLE.out⟩
        have HPR := Lib.hid (rpromise_any (ra : Int) (rb : Int) 0 L9.out.ac)
        rw [prS_ok hpe] at HPR
        clear hz hgd hpe
        go_wp2_with (go_at_call 39; refine HPR.out.mono ?_; rintro e Y10 ⟨vo, rfl, av10, ha, hf⟩; have L10 := Lib.hid (L9.out.ac_ ha hf); clear ha hf)
        go_returns
        exact LdPost.yes HSY.out L10.out.bel ⟨L10.out.ac, L10.out.lg, L10.out.la, L10.out.lq, L10.out.ll⟩
      ·have HNO := Lib.hid (loadS_no (n := n) HQ.out (fun h => hend h.2))
       have hend' : (endE st != 0) = true := by simpa using hend
       clear hend
       go_wp2_with (go_at_call 94; refine HENDR.out.mono ?_; rintro e Y9 ⟨rfl, rfl⟩)
       go_returns
       exact LdPost.no HNO.out L.out.bel
end Go.Proofs.YtlfikhblmbidmaaGreatDoor