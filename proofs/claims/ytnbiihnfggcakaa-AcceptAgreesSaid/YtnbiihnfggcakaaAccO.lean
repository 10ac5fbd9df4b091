/- The proposers' and acceptors' states, and what holds of them in every round (the plain law of AcceptAgrees, second part). -/
import Derived.Test.YtnbiihnfggcakaaAccM
set_option linter.unusedVariables false
set_option linter.unusedSimpArgs false
namespace Go.Proofs.Ytnbiihnfggcakaa
open Go.RowKit Go.Maps Go.Shelf

/-- What a proposer knows: told, best (slot, ballot, value), votes. -/
structure Tri where
  told : Nat
  bs : Int
  br : Int
  bd : Int
  bv : ByteArray
  votes : Nat
def tri0 : Tri := ⟨0, 0, 0, 0, ⟨#[]⟩, 0⟩
def tri (T : List Tri) (k : Nat) : Tri := T.getD k tri0
def ownV (k : Nat) : ByteArray := ⟨#[(97 + k).toUInt8]⟩
/-- What proposer k proposes. -/
def valT (t : Tri) (k : Nat) : ByteArray := if t.br = 0 ∧ t.bd = 0 then ownV k else t.bv

/-- The ballot with index p - 1; none: 0. -/
def balI (n p : Nat) : Int × Int := if p = 0 then (0, 0) else (1 + (((p - 1) / n : Nat) : Int), (((p - 1) % n : Nat) : Int))
theorem balI_le0 : ∀ n : Nat, n < 6 → ∀ p : Nat, p < 13 → ∀ q : Nat, q < 13 → (n == 0 || ((decide ((balI n p).1 < (balI n q).1) || (decide ((balI n p).1 = (balI n q).1) && decide ((balI n p).2 ≤ (balI n q).2))) == decide (p ≤ q))) = true := by decide +kernel
theorem balI_le {n p q : Nat} (hn : 1 ≤ n ∧ n ≤ 5) (hp : p ≤ 12) (hq : q ≤ 12) : leBal (balI n p) (balI n q) ↔ p ≤ q := by
  rw [leBal_iff]
  have h := balI_le0 n (by omega) p (by omega) q (by omega)
  have h0 : (n == 0) = false := by simp; omega
  rw [h0, Bool.false_or, beq_iff_eq] at h
  rw [← decide_eq_true_iff (p := p ≤ q), ← h]
  simp
theorem balI_zero0 : ∀ n : Nat, n < 6 → ∀ p : Nat, p < 13 → (n == 0 || ((decide ((balI n p).1 = 0) && decide ((balI n p).2 = 0)) == decide (p = 0))) = true := by decide +kernel
theorem balI_zero {n p : Nat} (hn : 1 ≤ n ∧ n ≤ 5) (hp : p ≤ 12) : ((balI n p).1 = 0 ∧ (balI n p).2 = 0) ↔ p = 0 := by
  have h := balI_zero0 n (by omega) p (by omega)
  have h0 : (n == 0) = false := by simp; omega
  rw [h0, Bool.false_or, beq_iff_eq] at h
  rw [← decide_eq_true_iff (p := p = 0), ← h]
  simp
theorem balI_succ (n k : Nat) : balI n (k + 1) = (1 + ((k / n : Nat) : Int), ((k % n : Nat) : Int)) := by simp [balI]

def entI (n : Nat) : Option (Nat × ByteArray) → EL
  | none => []
  | some (k, v) => [(0, (balI n (k + 1)).1, (balI n (k + 1)).2, v)]
structure NodeOk (n : Nat) (s : ASt) (p : Nat) (e : Option (Nat × ByteArray)) : Prop where
  good : AGood s
  base : s.base = 0
  num : s.n = n
  bal : (s.r, s.d) = balI n p
  p12 : p ≤ 12
  ent : s.L = entI n e
  e12 : ∀ k v, e = some (k, v) → k < 12

structure InvG (n : Nat) (A : List ASt) (T : List Tri) (ch : ByteArray) (b p : Nat → Nat) (e : Nat → Option (Nat × ByteArray)) : Prop where
  n5 : 1 ≤ n ∧ n ≤ 5
  la : A.length = n
  lt : T.length = 12
  nodes : ∀ a s, A[a]? = some s → NodeOk n s (p a) (e a)
  tris : ∀ k, b k ≤ 12 ∧ ((tri T k).br, (tri T k).bd) = balI n (b k)
  core : Core n (fun k => (tri T k).told) (fun k => (tri T k).votes) b p (fun k => valT (tri T k) k) (fun k => (tri T k).bv) ownV e
  ch : ch = ⟨#[]⟩ ∨ ∃ k, maj (tri T k).votes n = true ∧ ch = valT (tri T k) k
def Inv (n : Nat) (A : List ASt) (T : List Tri) (ch : ByteArray) : Prop := ∃ b p e, InvG n A T ch b p e

theorem tri_set {T : List Tri} {k : Nat} (hk : k < T.length) (t : Tri) (j : Nat) : tri (T.set k t) j = if j = k then t else tri T j := by
  unfold tri
  rw [List.getD_eq_getElem?_getD, List.getD_eq_getElem?_getD, List.getElem?_set]
  by_cases h : k = j
  · subst h; simp [hk]
  · rw [if_neg h, if_neg (fun e => h e.symm)]
theorem tri_at {T : List Tri} {k : Nat} {t : Tri} (h : T[k]? = some t) : tri T k = t := by unfold tri; rw [List.getD_eq_getElem?_getD, h]; rfl
theorem upd_of {α : Type} {T : List Tri} {k : Nat} {t : Tri} (hk : k < T.length) (f : Tri → α) : (fun j => f (tri (T.set k t) j)) = upd (fun j => f (tri T j)) k (f t) := by
  funext j
  rw [tri_set hk]
  unfold upd
  split <;> rfl
theorem upd_id {α : Type} (f : Nat → α) (k : Nat) : upd f k (f k) = f := by
  funext j
  unfold upd
  split
  · subst_vars; rfl
  · rfl

namespace InvG
variable {n : Nat} {A : List ASt} {T : List Tri} {ch : ByteArray} {b p : Nat → Nat} {e : Nat → Option (Nat × ByteArray)}
/-- Nodes behind one that turned. -/
theorem nodes_set (h : InvG n A T ch b p e) {a : Nat} {s s' : ASt} {p' : Nat} {e' : Option (Nat × ByteArray)} (hs : A[a]? = some s) (hs' : NodeOk n s' p' e') :
    ∀ x u, (A.set a s')[x]? = some u → NodeOk n u (upd p a p' x) (upd e a e' x) := by
  intro x u hx
  rw [List.getElem?_set] at hx
  by_cases hxa : a = x
  · subst hxa
    rw [if_pos rfl] at hx
    have hl := (List.getElem?_eq_some_iff.1 hs).1
    simp [hl] at hx
    subst hx
    rw [upd_same, upd_same]
    exact hs'
  · rw [if_neg hxa] at hx
    rw [upd_ne _ _ (fun e => hxa e.symm), upd_ne _ _ (fun e => hxa e.symm)]
    exact h.nodes x u hx
theorem prom_ok {s : ASt} {q : Nat} {o : Option (Nat × ByteArray)} (hn : 1 ≤ n ∧ n ≤ 5) (h : NodeOk n s q o) {k : Nat} (hk : k < 12) (hE : prE s (balI n (k + 1)).1 (balI n (k + 1)).2 0 = 0) :
    q ≤ k + 1 ∧ NodeOk n (withB s (balI n (k + 1)).1 (balI n (k + 1)).2) (k + 1) o := by
  obtain ⟨h1, h2, h3, h4⟩ := promE_zero.1 hE
  rw [h.bal] at h4
  refine ⟨(balI_le hn h.p12 (by omega)).1 h4, ?_⟩
  have hg := h.good.prom (balI n (k + 1)).1 (balI n (k + 1)).2 0
  rw [prS_ok hE] at hg
  exact ⟨hg, h.base, h.num, rfl, by omega, h.ent, h.e12⟩
/-- What is promised is a list of at most one entry. -/
theorem short {s : ASt} {q : Nat} {o : Option (Nat × ByteArray)} (h : NodeOk n s q o) : listL 0 s.L = s.L ∧ s.L.length ≤ 1 := by
  refine ⟨listL_zero h.good, ?_⟩
  rw [h.ent]
  unfold entI
  split <;> simp
theorem same_e (a : Nat) : upd e a (e a) = e := upd_id e a

theorem prom1 (h : InvG n A T ch b p e) {a k : Nat} {s : ASt} (hs : A[a]? = some s) (hk : k < 12) (hE : prE s (balI n (k + 1)).1 (balI n (k + 1)).2 0 = 0) :
    Inv n (A.set a (withB s (balI n (k + 1)).1 (balI n (k + 1)).2)) T ch := by
  obtain ⟨h1, h2⟩ := prom_ok h.n5 (h.nodes a s hs) hk hE
  have hn := h.nodes_set hs h2
  rw [same_e] at hn
  exact ⟨b, upd p a (k + 1), e, h.n5, by simpa using h.la, h.lt, hn, h.tris, h.core.prom1 h1, h.ch⟩

/-- Told: nothing greater than what is known. -/
theorem told1 (h : InvG n A T ch b p e) {a k : Nat} {s : ASt} {t : Tri} (hs : A[a]? = some s) (ht : T[k]? = some t) (hE : prE s (balI n (k + 1)).1 (balI n (k + 1)).2 0 = 0) (hm : maj t.told n = false)
    (hL : ∀ x, s.L[0]? = some x → ¬ 0 < ordB (x.2.1, x.2.2.1) (t.br, t.bd)) :
    Inv n (A.set a (withB s (balI n (k + 1)).1 (balI n (k + 1)).2)) (T.set k { t with told := t.told ||| 2 ^ a }) ch := by
  have hk12 : k < 12 := by have := (List.getElem?_eq_some_iff.1 ht).1; have := h.lt; omega
  have hkl : k < T.length := (List.getElem?_eq_some_iff.1 ht).1
  have han : a < n := by have := (List.getElem?_eq_some_iff.1 hs).1; have := h.la; omega
  have hNode := h.nodes a s hs
  obtain ⟨h1, h2⟩ := prom_ok h.n5 hNode hk12 hE
  have hn := h.nodes_set hs h2
  rw [same_e] at hn
  have htk := tri_at ht
  have hc := h.core.told_keep (a := a) (k := k) h.n5.2 han h1 (by simp only [htk]; exact hm) (fun j v he => by
    have hL0 := hL (0, (balI n (j + 1)).1, (balI n (j + 1)).2, v) (by rw [hNode.ent, he]; rfl)
    have hj := hNode.e12 j v he
    obtain ⟨hb12, hbal⟩ := h.tris k
    rw [htk] at hbal
    simp only at hL0
    rw [hbal] at hL0
    refine (balI_le h.n5 (by omega) hb12).1 ?_
    unfold leBal
    exact Int.not_lt.1 hL0)
  simp only [htk] at hc
  refine ⟨b, upd p a (k + 1), e, h.n5, by simpa using h.la, by simpa using h.lt, hn, fun j => ?_, ?_, ?_⟩
  · obtain ⟨h3, h4⟩ := h.tris j
    refine ⟨h3, ?_⟩
    rw [tri_set hkl]
    split
    · rename_i hjk; subst hjk; rw [htk] at h4; exact h4
    · exact h4
  · rw [upd_of hkl Tri.told, upd_of hkl Tri.votes, upd_of hkl Tri.bv]
    have e2 : (fun j => valT (tri (T.set k { t with told := t.told ||| 2 ^ a }) j) j) = fun j => valT (tri T j) j := by
      funext j
      rw [tri_set hkl]
      split
      · rename_i hjk; subst hjk; rw [htk]; rfl
      · rfl
    rw [e2]
    have e3 : upd (fun j => (tri T j).votes) k t.votes = fun j => (tri T j).votes := by rw [← htk]; exact upd_id _ k
    have e4 : upd (fun j => (tri T j).bv) k t.bv = fun j => (tri T j).bv := by rw [← htk]; exact upd_id _ k
    simp only
    rw [e3, e4]
    exact hc
  · refine h.ch.imp id fun ⟨j, h5, h6⟩ => ⟨j, ?_, ?_⟩
    · rw [tri_set hkl]
      split
      · rename_i hjk; subst hjk; rw [htk] at h5; exact h5
      · exact h5
    · rw [tri_set hkl]
      split
      · rename_i hjk; subst hjk; rw [htk] at h6; exact h6
      · exact h6

/-- Told: something greater. -/
theorem told2 (h : InvG n A T ch b p e) {a k : Nat} {s : ASt} {t : Tri} {x : Int × Ent} (hs : A[a]? = some s) (ht : T[k]? = some t) (hE : prE s (balI n (k + 1)).1 (balI n (k + 1)).2 0 = 0) (hm : maj t.told n = false)
    (hx : s.L[0]? = some x) (hL : 0 < ordB (x.2.1, x.2.2.1) (t.br, t.bd)) :
    Inv n (A.set a (withB s (balI n (k + 1)).1 (balI n (k + 1)).2)) (T.set k ⟨t.told ||| 2 ^ a, x.1, x.2.1, x.2.2.1, x.2.2.2, t.votes⟩) ch := by
  have hk12 : k < 12 := by have := (List.getElem?_eq_some_iff.1 ht).1; have := h.lt; omega
  have hkl : k < T.length := (List.getElem?_eq_some_iff.1 ht).1
  have han : a < n := by have := (List.getElem?_eq_some_iff.1 hs).1; have := h.la; omega
  have hNode := h.nodes a s hs
  obtain ⟨h1, h2⟩ := prom_ok h.n5 hNode hk12 hE
  have hn := h.nodes_set hs h2
  rw [same_e] at hn
  have htk := tri_at ht
  obtain ⟨j, v, he⟩ : ∃ j v, e a = some (j, v) := by
    rw [hNode.ent] at hx
    cases hea : e a with
    | none => rw [hea] at hx; simp [entI] at hx
    | some q => obtain ⟨j, v⟩ := q; exact ⟨j, v, rfl⟩
  have hxe : x = (0, (balI n (j + 1)).1, (balI n (j + 1)).2, v) := by
    rw [hNode.ent, he] at hx
    simpa [entI] using hx.symm
  subst hxe
  have hj := hNode.e12 j v he
  obtain ⟨hb12, hbal⟩ := h.tris k
  rw [htk] at hbal
  simp only at hL
  rw [hbal] at hL
  have hlt : b k < j + 1 := by
    refine Classical.byContradiction fun hc => ?_
    have : leBal (balI n (j + 1)) (balI n (b k)) := (balI_le h.n5 (by omega) hb12).2 (by omega)
    unfold leBal at this
    have e9 : ((balI n (j + 1)).1, (balI n (j + 1)).2) = balI n (j + 1) := rfl
    rw [e9] at hL
    omega
  have hc := h.core.told_best (a := a) (k := k) h.n5.2 han h1 (by simp only [htk]; exact hm) he hlt
  simp only [htk] at hc
  have hz : ¬ ((balI n (j + 1)).1 = 0 ∧ (balI n (j + 1)).2 = 0) := fun hz => by have := (balI_zero h.n5 (by omega)).1 hz; omega
  refine ⟨upd b k (j + 1), upd p a (k + 1), e, h.n5, by simpa using h.la, by simpa using h.lt, hn, fun i => ?_, ?_, ?_⟩
  · rw [tri_set hkl]
    by_cases hik : i = k
    · subst hik; rw [if_pos rfl, upd_same]; exact ⟨by omega, rfl⟩
    · rw [if_neg hik, upd_ne _ _ hik]; exact h.tris i
  · rw [upd_of hkl Tri.told, upd_of hkl Tri.votes, upd_of hkl Tri.bv]
    have e2 : (fun i => valT (tri (T.set k ⟨t.told ||| 2 ^ a, 0, (balI n (j + 1)).1, (balI n (j + 1)).2, v, t.votes⟩) i) i) = upd (fun i => valT (tri T i) i) k v := by
      funext i
      rw [tri_set hkl]
      unfold upd
      split
      · rename_i hjk; subst hjk; simp only [valT, if_neg hz]
      · rfl
    rw [e2]
    have e3 : upd (fun j => (tri T j).votes) k t.votes = fun j => (tri T j).votes := by rw [← htk]; exact upd_id _ k
    simp only
    rw [e3]
    exact hc
  · refine h.ch.imp id fun ⟨i, h5, h6⟩ => ⟨i, ?_, ?_⟩
    · rw [tri_set hkl]
      split
      · rename_i hjk; subst hjk; rw [htk] at h5; exact h5
      · exact h5
    · rw [tri_set hkl]
      split
      · rename_i hjk
        subst hjk
        -- a proposer that was not told enough has no votes
        exfalso
        obtain ⟨y, _, hy⟩ := maj_some n h.n5.2 _ (h.core.vl i) h5
        have := (h.core.t2 i y hy).1
        simp only [htk] at this
        rw [hm] at this
        exact absurd this (by decide)
      · exact h6

/-- A vote. -/
theorem vote (h : InvG n A T ch b p e) {a k : Nat} {s : ASt} {t : Tri} (hs : A[a]? = some s) (ht : T[k]? = some t) (hm : maj t.told n = true)
    (hE : acE s (balI n (k + 1)).1 (balI n (k + 1)).2 0 (valT t k) = 0) :
    let T' := T.set k { t with votes := t.votes ||| 2 ^ a }
    (∀ c, (c = ch ∨ maj (t.votes ||| 2 ^ a) n = true ∧ ch = ⟨#[]⟩ ∧ c = valT t k) → Inv n (A.set a (acS s (balI n (k + 1)).1 (balI n (k + 1)).2 0 (valT t k))) T' c) ∧
      (maj (t.votes ||| 2 ^ a) n = true → ch ≠ ⟨#[]⟩ → ch = valT t k) := by
  have hk12 : k < 12 := by have := (List.getElem?_eq_some_iff.1 ht).1; have := h.lt; omega
  have hkl : k < T.length := (List.getElem?_eq_some_iff.1 ht).1
  have han : a < n := by have := (List.getElem?_eq_some_iff.1 hs).1; have := h.la; omega
  have hNode := h.nodes a s hs
  have htk := tri_at ht
  obtain ⟨h1, h2, h3, h4, h5, h6⟩ := accE_zero.1 hE
  rw [hNode.bal] at h5
  have hp := (balI_le h.n5 hNode.p12 (by omega : k + 1 ≤ 12)).1 h5
  have hac := acS_ok hE
  have hN2 : NodeOk n (acS s (balI n (k + 1)).1 (balI n (k + 1)).2 0 (valT t k)) (k + 1) (some (k, valT t k)) := by
    have hg := hNode.good.acc (balI n (k + 1)).1 (balI n (k + 1)).2 0 (valT t k)
    refine ⟨hg, ?_, ?_, ?_, by omega, ?_, fun j v hj => by cases hj; exact hk12⟩
    · rw [hac]; exact hNode.base
    · rw [hac]; exact hNode.num
    · rw [hac]
    · rw [hac]
      simp only
      rw [hNode.ent]
      cases e a with
      | none => rfl
      | some q => rfl
  have hn := h.nodes_set hs hN2
  have hc := h.core.vote (a := a) (k := k) h.n5.2 han hk12 hp (by simp only [htk]; exact hm)
  simp only [htk] at hc
  have e2 : (fun j => valT (tri (T.set k { t with votes := t.votes ||| 2 ^ a }) j) j) = fun j => valT (tri T j) j := by
    funext j
    rw [tri_set hkl]
    split
    · rename_i hjk; subst hjk; rw [htk]; rfl
    · rfl
  have hcore : Core n (fun j => (tri (T.set k { t with votes := t.votes ||| 2 ^ a }) j).told) (fun j => (tri (T.set k { t with votes := t.votes ||| 2 ^ a }) j).votes) b (upd p a (k + 1)) (fun j => valT (tri (T.set k { t with votes := t.votes ||| 2 ^ a }) j) j)
      (fun j => (tri (T.set k { t with votes := t.votes ||| 2 ^ a }) j).bv) ownV (upd e a (some (k, valT t k))) := by
    rw [upd_of hkl Tri.told, upd_of hkl Tri.votes, upd_of hkl Tri.bv, e2]
    have e3 : upd (fun j => (tri T j).told) k t.told = fun j => (tri T j).told := by rw [← htk]; exact upd_id _ k
    have e4 : upd (fun j => (tri T j).bv) k t.bv = fun j => (tri T j).bv := by rw [← htk]; exact upd_id _ k
    simp only
    rw [e3, e4]
    exact hc
  have hval : ∀ j, valT (tri (T.set k { t with votes := t.votes ||| 2 ^ a }) j) j = valT (tri T j) j := fun j => congrFun e2 j
  have hvk : (tri (T.set k { t with votes := t.votes ||| 2 ^ a }) k).votes = t.votes ||| 2 ^ a := by rw [tri_set hkl, if_pos rfl]
  have hgrow : ∀ j, maj (tri T j).votes n = true → maj (tri (T.set k { t with votes := t.votes ||| 2 ^ a }) j).votes n = true := fun j hj => by
    rw [tri_set hkl]
    split
    · rename_i hjk; subst hjk; rw [htk] at hj; exact maj_grow n h.n5.2 _ (by have := h.core.vl j; rwa [htk] at this) a han hj
    · exact hj
  refine ⟨fun c hcc => ⟨b, upd p a (k + 1), upd e a (some (k, valT t k)), h.n5, by simpa using h.la, by simpa using h.lt, hn, fun j => ?_, hcore, ?_⟩, fun hmk hne => ?_⟩
  · obtain ⟨h7, h8⟩ := h.tris j
    refine ⟨h7, ?_⟩
    rw [tri_set hkl]
    split
    · rename_i hjk; subst hjk; rw [htk] at h8; exact h8
    · exact h8
  · rcases hcc with rfl | ⟨hmk, _, rfl⟩
    · refine h.ch.imp id fun ⟨j, h7, h8⟩ => ⟨j, hgrow j h7, ?_⟩
      rw [hval]
      exact h8
    · refine .inr ⟨k, by rw [hvk]; exact hmk, ?_⟩
      rw [hval, htk]
  · rcases h.ch with h7 | ⟨j, h7, h8⟩
    · exact absurd h7 hne
    · have := hcore.agree2 h.n5.2 (hgrow j h7) (by rw [hvk]; exact hmk)
      rw [hval, hval, htk] at this
      rw [h8, this]
end InvG

theorem Inv.start {n : Nat} (hn : 1 ≤ n ∧ n ≤ 5) : Inv n (List.replicate n (newS n)) (List.replicate 12 tri0) ⟨#[]⟩ := by
  have ht : ∀ k, tri (List.replicate 12 tri0) k = tri0 := fun k => by
    unfold tri
    rw [List.getD_eq_getElem?_getD, List.getElem?_replicate]
    split <;> rfl
  refine ⟨fun _ => 0, fun _ => 0, fun _ => none, hn, by simp, by simp, fun a s hs => ?_, fun k => ?_, ?_, .inl rfl⟩
  · have : s = newS n := by
      rw [List.getElem?_replicate] at hs
      split at hs
      · exact (Option.some.inj hs).symm
      · cases hs
    subst this
    exact ⟨AGood.new ⟨by omega, by omega⟩, rfl, rfl, rfl, by omega, rfl, fun k v h => by cases h⟩
  · rw [ht]; exact ⟨by omega, rfl⟩
  · simp only [ht]
    have hz : ∀ m : Nat, m < 6 → maj 0 m = false := by decide +kernel
    refine ⟨fun k => Nat.pow_pos (by decide), fun k => Nat.pow_pos (by decide), fun k => rfl, fun a k v h => ?_, fun k => ⟨Nat.zero_le _, fun j h => ?_⟩, fun k a h => ?_, fun k a h => ?_, fun k a j h => ?_⟩
    · cases h
    · omega
    · simp [tri0] at h
    · simp [tri0] at h
    · simp [tri0] at h
end Go.Proofs.Ytnbiihnfggcakaa
