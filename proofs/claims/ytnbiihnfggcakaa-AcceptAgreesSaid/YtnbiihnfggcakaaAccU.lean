/- Both acceptors by one state that may be missing (nil): each call. -/
import Derived.Test.YtnbiihnfggcakaaRAccN
set_option linter.unusedVariables false
set_option linter.unusedSimpArgs false
namespace Go.Proofs.Ytnbiihnfggcakaa
open Go.RowKit Go.Maps Go.Shelf

/-- The acceptor a, made from block B on. -/
def AU (B : Nat) (w : World) (a : Value) : Option ASt → Prop
  | none => a = .pointer none
  | some s => ∃ p m, a = .pointer (some ⟨p, 0, none⟩) ∧ AS w p m s ∧ B ≤ p ∧ B ≤ m
/-- The reference's acceptor r, made from block B on. -/
def RU (B : Nat) (w : World) (r : Value) : Option ASt → Prop
  | none => r = .pointer none
  | some s => ∃ q v, r = .pointer (some ⟨q, 0, none⟩) ∧ RAt w q v s ∧ B ≤ q

/-- What stands whatever the calls do: blocks of steps, rows of entries, what was there before B. -/
structure KU (B : Nat) (w w' : World) : Prop where
  bel : Below B w w'
  row : ∀ lo v L, EntRow w lo v L → EntRow w' lo v L
  stp : ∀ b cs, Blk w b 36 cs → Blk w' b 36 cs
  size : w.heap.size ≤ w'.heap.size
theorem AU.of_below {B : Nat} {w w' : World} {a : Value} {σ : Option ASt} (h : AU B w a σ) (k : Below w.heap.size w w') : AU B w' a σ := by
  cases σ with
  | none => exact h
  | some s =>
    obtain ⟨p, m, h1, h2, h3, h4⟩ := h
    exact ⟨p, m, h1, h2.below k, h3, h4⟩
theorem RU.of_below {B : Nat} {w w' : World} {a : Value} {σ : Option ASt} (h : RU B w a σ) (k : Below w.heap.size w w') : RU B w' a σ := by
  cases σ with
  | none => exact h
  | some s =>
    obtain ⟨p, v, h1, h2, h3⟩ := h
    exact ⟨p, v, h1, h2.below k, h3⟩
theorem KU.of_below {B : Nat} {w w' : World} (hB : B ≤ w.heap.size) (k : Below w.heap.size w w') : KU B w w' :=
  ⟨k.mono hB, fun _ _ _ h => h.below k, fun _ _ h => h.bel k, k.size⟩
theorem KU.trans {B : Nat} {a b c : World} (h : KU B a b) (k : KU B b c) : KU B a c :=
  ⟨h.bel.trans k.bel, fun _ _ _ x => k.row _ _ _ (h.row _ _ _ x), fun _ _ x => k.stp _ _ (h.stp _ _ x), Nat.le_trans h.size k.size⟩
theorem KU.drew {B : Nat} {a b : World} (h : KU B a.drew b) : KU B a b :=
  ⟨⟨h.bel.1, h.bel.2, h.bel.3, h.bel.4, h.bel.5⟩, fun lo v L x => h.row lo v L x, fun b cs x => h.stp b cs x, h.size⟩


theorem AU.drew {B : Nat} {w : World} {a : Value} {σ : Option ASt} (h : AU B w a σ) : AU B w.drew a σ := by
  cases σ with
  | none => exact h
  | some s =>
    obtain ⟨p, m, h1, h2, h3, h4⟩ := h
    exact ⟨p, m, h1, h2.drew, h3, h4⟩
theorem RU.drew {B : Nat} {w : World} {a : Value} {σ : Option ASt} (h : RU B w a σ) : RU B w.drew a σ := by
  cases σ with
  | none => exact h
  | some s =>
    obtain ⟨p, v, h1, h2, h3⟩ := h
    exact ⟨p, v, h1, h2.drew, h3⟩
/-- A step of the acceptor a leaves the rest. -/
theorem KU.of_frA {B p m : Nat} {s : ASt} {w w' : World} (h : AS w p m s) (hp : B ≤ p) (hm : B ≤ m) (k : Fr (S2 p m) w w') : KU B w w' ∧ ∀ r ρ, RU B w r ρ → RU B w' r ρ := by
  have hlt := h.lt
  have hrow : ∀ lo v L, EntRow w lo v L → EntRow w' lo v L := fun lo v L hr => row_fr hr k fun g hg hs => by
    rcases hs with e | e
    · exact row_ne_blk hr h.at_.blk (by decide) g hg e
    · obtain ⟨es, c, hb⟩ := h.at_.map.block
      exact row_ne_map hr hb g hg e
  refine ⟨⟨k.below (by omega) (fun i e => by rcases e with e | e <;> omega), hrow, fun b cs hb => hb.fr k fun e => ?_, k.size⟩, fun r ρ hr => ?_⟩
  · rcases e with e | e
    · exact hb.ne_type h.at_.blk (by decide) e
    · obtain ⟨es, c, hm'⟩ := h.at_.map.block
      exact hb.ne_map hm' e
  · cases ρ with
    | none => exact hr
    | some t =>
      obtain ⟨q, v, h1, h2, h3⟩ := hr
      refine ⟨q, v, h1, ⟨h2.blk.fr k fun e => ?_, hrow _ _ _ h2.row, h2.good⟩, h3⟩
      rcases e with e | e
      · exact h2.blk.ne_type h.at_.blk (by decide) e
      · obtain ⟨es, c, hm'⟩ := h.at_.map.block
        exact h2.blk.ne_map hm' e
/-- A step of the reference's acceptor leaves the rest. -/
theorem KU.of_frR {B q : Nat} {v : Value} {s : ASt} {w w' : World} (h : RAt w q v s) (hq : B ≤ q) (k : Fr (S1 q) w w') : KU B w w' ∧ ∀ a σ, AU B w a σ → AU B w' a σ := by
  have hlt := h.blk.lt
  have hrow : ∀ lo v L, EntRow w lo v L → EntRow w' lo v L := fun lo v L hr => row_fr hr k fun g hg hs => row_ne_blk hr h.blk (by decide) g hg hs
  refine ⟨⟨k.below (by omega) (fun i e => by have e : i = q := e; omega), hrow, fun b cs hb => hb.fr k fun e => hb.ne_type h.blk (by decide) e, k.size⟩, fun a σ ha => ?_⟩
  cases σ with
  | none => exact ha
  | some t =>
    obtain ⟨p, m, h1, h2, h3, h4⟩ := ha
    refine ⟨p, m, h1, h2.fr k (fun e => ?_) (fun e => ?_), h3, h4⟩
    · have e : p = q := e
      exact h2.at_.blk.ne_type h.blk (by decide) e
    · have e : m = q := e
      obtain ⟨es, c, hm'⟩ := h2.at_.map.block
      subst e
      exact h.blk.ne_map hm' rfl
theorem KU.belA {B : Nat} {w w' : World} (hB : B ≤ w.heap.size) (k : Below w.heap.size w w') : KU B w w' ∧ ∀ r ρ, RU B w r ρ → RU B w' r ρ := ⟨.of_below hB k, fun _ _ h => h.of_below k⟩
theorem KU.belR {B : Nat} {w w' : World} (hB : B ≤ w.heap.size) (k : Below w.heap.size w w') : KU B w w' ∧ ∀ a σ, AU B w a σ → AU B w' a σ := ⟨.of_below hB k, fun _ _ h => h.of_below k⟩

/-! ### What is computed -/
def uPrE (σ : Option ASt) (r d k : Int) : Int := match σ with | none => 1 | some s => prE s r d k
def uPrL (σ : Option ASt) (r d k : Int) : EL := match σ with | none => [] | some s => prL s r d k
def uPrS (σ : Option ASt) (r d k : Int) : Option ASt := σ.map fun s => prS s r d k
def uAcE (σ : Option ASt) (r d k : Int) (v : ByteArray) : Int := match σ with | none => 1 | some s => acE s r d k v
def uAcS (σ : Option ASt) (r d k : Int) (v : ByteArray) : Option ASt := σ.map fun s => acS s r d k v
def uFoE (σ : Option ASt) (k : Int) : Int := match σ with | none => 1 | some s => foE k
def uFoS (σ : Option ASt) (k : Int) : Option ASt := σ.map fun s => foS s k
def uBal (σ : Option ASt) : Int × Int := match σ with | none => (0, 0) | some s => (s.r, s.d)
def uBase (σ : Option ASt) : Int := match σ with | none => 0 | some s => s.base
def uList (σ : Option ASt) (k : Int) : EL := match σ with | none => [] | some s => listL k s.L
def uAcc (σ : Option ASt) (k : Int) : (Int × Int × Int × ByteArray) × Bool := match σ with
  | none => ((0, 0, 0, ⟨#[]⟩), false)
  | some s => (((get k s.L).map fun e => (k, e)).getD (0, 0, 0, ⟨#[]⟩), (get k s.L).isSome)
theorem uAcc_accd {s : ASt} {k : Int} {x e1 e2 : Int} {e3 : ByteArray} {ok : Bool} (h : uAcc (some s) k = ((x, e1, e2, e3), ok)) : accdV k s.L = .tuple #[entV x (e1, e2, e3), .bool ok] := by
  unfold accdV
  unfold uAcc at h
  simp only [Prod.mk.injEq] at h
  obtain ⟨h1, h2⟩ := h
  rw [h2]
  cases hg : get k s.L with
  | none =>
    rw [hg] at h1
    simp at h1
    obtain ⟨rfl, rfl, rfl, rfl⟩ := h1
    rfl
  | some e =>
    rw [hg] at h1
    simp at h1
    obtain ⟨rfl, rfl⟩ := h1
    rfl

section
variable (B : Nat) (a : Value) (σ : Option ASt) (w : World)
theorem uList_len (h : AU B w a σ) (k : Int) : (uList σ k).length ≤ 1000000000 := by
  cases σ with
  | none => simp [uList]
  | some s =>
    obtain ⟨p, m, _, h2, _⟩ := h
    have := h2.good.len
    have : (listL k s.L).length ≤ s.L.length := List.length_filter_le _ _
    simp only [uList]
    omega
theorem uPrL_len (h : AU B w a σ) (r d k : Int) : (uPrL σ r d k).length ≤ 1000000000 := by
  cases σ with
  | none => simp [uPrL]
  | some s =>
    obtain ⟨p, m, _, h2, _⟩ := h
    have := h2.good.len
    have : (listL k s.L).length ≤ s.L.length := List.length_filter_le _ _
    simp only [uPrL, prL]
    split <;> simp <;> omega

/-! ### The acceptor -/
theorem u_promise (r d k : Int) (h : AU B w a σ) (hB : B ≤ w.heap.size) : Calls Try.prog 18 #[a, balV r d, .int .i64 k] w fun e w' =>
    ∃ v, e = .returned (.tuple #[v, .int .i64 (uPrE σ r d k)]) ∧ EntRow w' w.heap.size v (uPrL σ r d k) ∧ AU B w' a (uPrS σ r d k) ∧ KU B w w' ∧ ∀ r ρ, RU B w r ρ → RU B w' r ρ := by
  cases σ with
  | none =>
    refine (nil_promise a r d k w (.inl h)).mono ?_
    rintro e w' ⟨rfl, b⟩
    exact ⟨_, rfl, EntRow.nil _ _, h, KU.belA hB b⟩
  | some s =>
    obtain ⟨p, m, rfl, h2, h3, h4⟩ := h
    refine (promise_S p m s w r d k h2).mono ?_
    rintro e w' ⟨v, rfl, r1, t1, f1⟩
    exact ⟨v, rfl, r1, ⟨p, m, rfl, t1, h3, h4⟩, KU.of_frA h2 h3 h4 (f1.mono fun i e => .inl e)⟩
theorem u_accept (r d k : Int) (v : ByteArray) (h : AU B w a σ) (hB : B ≤ w.heap.size) : Calls Try.prog 19 #[a, balV r d, .int .i64 k, .string v] w fun e w' =>
    e = .returned (.int .i64 (uAcE σ r d k v)) ∧ AU B w' a (uAcS σ r d k v) ∧ KU B w w' ∧ ∀ r ρ, RU B w r ρ → RU B w' r ρ := by
  cases σ with
  | none =>
    refine (nil_accept a r d k v w (.inl h)).mono ?_
    rintro e w' ⟨rfl, b⟩
    exact ⟨rfl, h, KU.belA hB b⟩
  | some s =>
    obtain ⟨p, m, rfl, h2, h3, h4⟩ := h
    refine (accept_S p m s w r d k v h2).mono ?_
    rintro e w' ⟨rfl, t1, f1⟩
    exact ⟨rfl, ⟨p, m, rfl, t1, h3, h4⟩, KU.of_frA h2 h3 h4 f1⟩
theorem u_forget (k : Int) (h : AU B w a σ) (hB : B ≤ w.heap.size) : Calls Try.prog 20 #[a, .int .i64 k] w fun e w' =>
    e = .returned (.int .i64 (uFoE σ k)) ∧ AU B w' a (uFoS σ k) ∧ KU B w w' ∧ ∀ r ρ, RU B w r ρ → RU B w' r ρ := by
  cases σ with
  | none =>
    refine (nil_forget a k w (.inl h)).mono ?_
    rintro e w' ⟨rfl, b⟩
    exact ⟨rfl, h, KU.belA hB b⟩
  | some s =>
    obtain ⟨p, m, rfl, h2, h3, h4⟩ := h
    refine (forget_S p m s w k h2).mono ?_
    rintro e w' ⟨rfl, t1, f1⟩
    exact ⟨rfl, ⟨p, m, rfl, t1, h3, h4⟩, KU.of_frA h2 h3 h4 f1⟩
theorem u_copy (h : AU B w a σ) (hB : B ≤ w.heap.size) : Calls Try.prog 28 #[a] w fun e w' =>
    ∃ a', e = .returned a' ∧ AU B w' a' σ ∧ KU B w w' ∧ ∀ r ρ, RU B w r ρ → RU B w' r ρ := by
  cases σ with
  | none =>
    refine (nil_copy a w (.inl h)).mono ?_
    rintro e w' ⟨rfl, b⟩
    exact ⟨_, rfl, rfl, KU.belA hB b⟩
  | some s =>
    obtain ⟨p, m, rfl, h2, h3, h4⟩ := h
    refine (copy_S p m s w h2).mono ?_
    rintro e w' ⟨p', m', rfl, t1, hp, hm, b⟩
    exact ⟨_, rfl, ⟨p', m', rfl, t1, by omega, by omega⟩, KU.belA hB b⟩
theorem u_promised (b1 b2 : Int) (hb : uBal σ = (b1, b2)) (h : AU B w a σ) : Calls Try.prog 15 #[a] w fun e w' => e = .returned (balV b1 b2) ∧ Below w.heap.size w w' := by
  cases σ with
  | none => cases hb; exact nil_promised a w (.inl h)
  | some s =>
    obtain ⟨p, m, rfl, h2, h3, h4⟩ := h
    cases hb
    exact promised_S p m s w h2
theorem u_base (b : Int) (hb : uBase σ = b) (h : AU B w a σ) : Calls Try.prog 17 #[a] w fun e w' => e = .returned (.int .i64 b) ∧ w = w' := by
  subst hb
  cases σ with
  | none => exact nil_base a w (.inl h)
  | some s =>
    obtain ⟨p, m, rfl, h2, h3, h4⟩ := h
    exact base_S p m s w h2
theorem u_list (k : Int) (h : AU B w a σ) : Calls Try.prog 16 #[a, .int .i64 k] w fun e w' => ∃ v, e = .returned v ∧ EntRow w' w.heap.size v (uList σ k) ∧ Below w.heap.size w w' := by
  cases σ with
  | none =>
    refine (nil_list a k w (.inl h)).mono ?_
    rintro e w' ⟨rfl, b⟩
    exact ⟨_, rfl, EntRow.nil _ _, b⟩
  | some s =>
    obtain ⟨p, m, rfl, h2, h3, h4⟩ := h
    exact list_S p m s w k h2
theorem u_accepted (k : Int) (hk : in64 k) (x e1 e2 : Int) (e3 : ByteArray) (ok : Bool) (hu : uAcc σ k = ((x, e1, e2, e3), ok)) (h : AU B w a σ) : Calls Try.prog 22 #[a, .int .i64 k] w fun e w' =>
    e = .returned (.tuple #[.agg #[.int .i64 x, .int .i64 e1, .int .i64 e2, .string e3], .bool ok]) ∧ Below w.heap.size w w' := by
  cases σ with
  | none =>
    cases hu
    exact nil_accepted a k w (.inl h)
  | some s =>
    obtain ⟨p, m, rfl, h2, h3, h4⟩ := h
    rw [← show accdV k s.L = _ from uAcc_accd hu]
    exact accepted_S p m s w k h2 hk

/-! ### The reference's -/
theorem ur_promise (r d k : Int) (h : RU B w a σ) (hB : B ≤ w.heap.size) : Calls Try.prog 24 #[a, balV r d, .int .i64 k] w fun e w' =>
    ∃ v, e = .returned (.tuple #[v, .int .i64 (uPrE σ r d k)]) ∧ EntRow w' w.heap.size v (uPrL σ r d k) ∧ RU B w' a (uPrS σ r d k) ∧ KU B w w' ∧ ∀ a σ, AU B w a σ → AU B w' a σ := by
  cases σ with
  | none =>
    subst h
    refine (rnil_promise r d k w).mono ?_
    rintro e w' ⟨rfl, b⟩
    exact ⟨_, rfl, EntRow.nil _ _, rfl, KU.belR hB b⟩
  | some s =>
    obtain ⟨q, v, rfl, h2, h3⟩ := h
    by_cases hE : prE s r d k = 0
    · refine (rpromise_yes q v s r d k w h2 hE).mono ?_
      rintro e w' ⟨v', rfl, r1, t1, f1⟩
      refine ⟨v', by simp only [uPrE, hE], by simp only [uPrL, prL_ok hE]; exact r1, ⟨q, v, rfl, ?_, h3⟩, KU.of_frR h2 h3 f1⟩
      show RAt w' q v (prS s r d k)
      rw [prS_ok hE]
      exact t1
    · refine (rpromise_bad q v s r d k w h2 hE).mono ?_
      rintro e w' ⟨rfl, b⟩
      refine ⟨_, rfl, by simp only [uPrL, prL_no hE]; exact EntRow.nil _ _, ⟨q, v, rfl, ?_, h3⟩, KU.belR hB b⟩
      show RAt w' q v (prS s r d k)
      rw [prS_no hE]
      exact h2.below b
theorem ur_accept (r d k : Int) (v : ByteArray) (h : RU B w a σ) (hB : B ≤ w.heap.size) : Calls Try.prog 26 #[a, balV r d, .int .i64 k, .string v] w fun e w' =>
    e = .returned (.int .i64 (uAcE σ r d k v)) ∧ RU B w' a (uAcS σ r d k v) ∧ KU B w w' ∧ ∀ a σ, AU B w a σ → AU B w' a σ := by
  cases σ with
  | none =>
    subst h
    refine (rnil_accept r d k v w).mono ?_
    rintro e w' ⟨rfl, b⟩
    exact ⟨rfl, rfl, KU.belR hB b⟩
  | some s =>
    obtain ⟨q, v0, rfl, h2, h3⟩ := h
    by_cases hE : acE s r d k v = 0
    · refine (raccept_yes q v0 s r d k v w h2 hE).mono ?_
      rintro e w' ⟨v', rfl, t1, f1⟩
      exact ⟨by simp only [uAcE, hE], ⟨q, v', rfl, t1, h3⟩, KU.of_frR h2 h3 f1⟩
    · refine (raccept_bad q v0 s r d k v w h2 hE).mono ?_
      rintro e w' ⟨rfl, b⟩
      refine ⟨rfl, ⟨q, v0, rfl, ?_, h3⟩, KU.belR hB b⟩
      show RAt w' q v0 (acS s r d k v)
      rw [acS_no hE]
      exact h2.below b
theorem ur_forget (k : Int) (h : RU B w a σ) (hB : B ≤ w.heap.size) : Calls Try.prog 27 #[a, .int .i64 k] w fun e w' =>
    e = .returned (.int .i64 (uFoE σ k)) ∧ RU B w' a (uFoS σ k) ∧ KU B w w' ∧ ∀ a σ, AU B w a σ → AU B w' a σ := by
  cases σ with
  | none =>
    subst h
    refine (rnil_forget k w).mono ?_
    rintro e w' ⟨rfl, rfl⟩
    exact ⟨rfl, rfl, KU.belR hB (Below.refl _ _)⟩
  | some s =>
    obtain ⟨q, v0, rfl, h2, h3⟩ := h
    refine (rforget_any q v0 s k w h2).mono ?_
    rintro e w' ⟨v', rfl, t1, f1⟩
    exact ⟨rfl, ⟨q, v', rfl, t1, h3⟩, KU.of_frR h2 h3 f1⟩
theorem ur_copy (h : RU B w a σ) (hB : B ≤ w.heap.size) : Calls Try.prog 29 #[a] w fun e w' =>
    ∃ a', e = .returned a' ∧ RU B w' a' σ ∧ KU B w w' ∧ ∀ a σ, AU B w a σ → AU B w' a σ := by
  cases σ with
  | none =>
    subst h
    refine (rnil_copy w).mono ?_
    rintro e w' ⟨rfl, rfl⟩
    exact ⟨_, rfl, rfl, KU.belR hB (Below.refl _ _)⟩
  | some s =>
    obtain ⟨q, v0, rfl, h2, h3⟩ := h
    refine (rcopy_any q v0 s w h2).mono ?_
    rintro e w' ⟨q', v', rfl, t1, hq, b⟩
    exact ⟨_, rfl, ⟨q', v', rfl, t1, by omega⟩, KU.belR hB b⟩
theorem ur_promised (b1 b2 : Int) (hb : uBal σ = (b1, b2)) (h : RU B w a σ) : Calls Try.prog 31 #[a] w fun e w' => e = .returned (balV b1 b2) ∧ Below w.heap.size w w' := by
  cases σ with
  | none => cases hb; subst h; exact rnil_promised w
  | some s =>
    obtain ⟨q, v, rfl, h2, h3⟩ := h
    cases hb
    exact rpromised_any q v s w h2
theorem ur_base (b : Int) (hb : uBase σ = b) (h : RU B w a σ) : Calls Try.prog 32 #[a] w fun e w' => e = .returned (.int .i64 b) ∧ w = w' := by
  subst hb
  cases σ with
  | none => subst h; exact rnil_base w
  | some s =>
    obtain ⟨q, v, rfl, h2, h3⟩ := h
    exact rbase_any q v s w h2
theorem ur_list (k : Int) (h : RU B w a σ) : Calls Try.prog 33 #[a, .int .i64 k] w fun e w' => ∃ v, e = .returned v ∧ EntRow w' w.heap.size v (uList σ k) ∧ Below w.heap.size w w' := by
  cases σ with
  | none =>
    subst h
    refine (rnil_list k w).mono ?_
    rintro e w' ⟨rfl, b⟩
    exact ⟨_, rfl, EntRow.nil _ _, b⟩
  | some s =>
    obtain ⟨q, v, rfl, h2, h3⟩ := h
    exact rlist_any q v s k w h2
theorem ur_accepted (k : Int) (x e1 e2 : Int) (e3 : ByteArray) (ok : Bool) (hu : uAcc σ k = ((x, e1, e2, e3), ok)) (h : RU B w a σ) : Calls Try.prog 30 #[a, .int .i64 k] w fun e w' =>
    e = .returned (.tuple #[.agg #[.int .i64 x, .int .i64 e1, .int .i64 e2, .string e3], .bool ok]) ∧ Below w.heap.size w w' := by
  cases σ with
  | none =>
    cases hu
    subst h
    exact rnil_accepted k w
  | some s =>
    obtain ⟨q, v, rfl, h2, h3⟩ := h
    rw [← show accdV k s.L = _ from uAcc_accd hu]
    exact raccepted_any q v s k w h2
end

/-- New, both. -/
def uNewE (n : Int) : Int := if 1 ≤ n ∧ n ≤ 7 then 0 else 2
def uNew (n : Int) : Option ASt := if 1 ≤ n ∧ n ≤ 7 then some (newS n) else none
theorem u_new (n : Int) (w : World) : Calls Try.prog 14 #[.int .i64 n] w fun e w' => ∃ a, e = .returned (.tuple #[a, .int .i64 (uNewE n)]) ∧ AU w.heap.size w' a (uNew n) ∧ Below w.heap.size w w' := by
  by_cases hn : 1 ≤ n ∧ n ≤ 7
  · refine (new_S w n hn).mono ?_
    rintro e w' ⟨p, m, rfl, t1, hp, hm, b⟩
    exact ⟨.pointer (some ⟨p, 0, none⟩), by simp only [uNewE, if_pos hn], by simp only [uNew, if_pos hn]; exact ⟨p, m, rfl, t1, hp, hm⟩, b⟩
  · refine (new_bad n w hn).mono ?_
    rintro e w' ⟨rfl, rfl⟩
    exact ⟨.pointer none, by simp only [uNewE, if_neg hn], by simp only [uNew, if_neg hn]; rfl, Below.refl _ _⟩
theorem ur_new (B : Nat) (n : Int) (w : World) (hB : B ≤ w.heap.size) : Calls Try.prog 23 #[.int .i64 n] w fun e w' => ∃ a, e = .returned (.tuple #[a, .int .i64 (uNewE n)]) ∧ RU B w' a (uNew n) ∧ Below w.heap.size w w' := by
  by_cases hn : 1 ≤ n ∧ n ≤ 7
  · refine (rnew_yes n w hn).mono ?_
    rintro e w' ⟨p, rfl, t1, hp, b⟩
    exact ⟨.pointer (some ⟨p, 0, none⟩), by simp only [uNewE, if_pos hn], by simp only [uNew, if_pos hn]; exact ⟨p, _, rfl, t1, by omega⟩, b⟩
  · refine (rnew_bad n w hn).mono ?_
    rintro e w' ⟨rfl, rfl⟩
    exact ⟨.pointer none, by simp only [uNewE, if_neg hn], by simp only [uNew, if_neg hn]; rfl, Below.refl _ _⟩
/-- What '== nil' says. -/
theorem AU.isNil {B : Nat} {w : World} {a : Value} {σ : Option ASt} (h : AU B w a σ) : a = .pointer none ∧ σ = none ∨ ∃ p, a = .pointer (some ⟨p, 0, none⟩) ∧ σ.isSome = true := by
  cases σ with
  | none => exact .inl ⟨h, rfl⟩
  | some s => obtain ⟨p, m, h1, _⟩ := h; exact .inr ⟨p, h1, rfl⟩
theorem RU.isNil {B : Nat} {w : World} {a : Value} {σ : Option ASt} (h : RU B w a σ) : a = .pointer none ∧ σ = none ∨ ∃ p, a = .pointer (some ⟨p, 0, none⟩) ∧ σ.isSome = true := by
  cases σ with
  | none => exact .inl ⟨h, rfl⟩
  | some s => obtain ⟨p, m, h1, _⟩ := h; exact .inr ⟨p, h1, rfl⟩
end Go.Proofs.Ytnbiihnfggcakaa
