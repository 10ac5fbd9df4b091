/- Pairs of tables: steps of the reference beside those of the program; the older pair. -/
import Derived.Test.YtmojdafegljghaaClockQ
set_option linter.unusedVariables false
set_option linter.unusedSimpArgs false
namespace Go.Proofs.Ytmojdafegljghaa
open Go.RowKit Go.Maps Go.Shelf

section
variable (q : Nat) (v : Value) (id t now : Int) (L : List (Int × Int)) (w : World)
def RSetS (q : Nat) (id t now : Int) (L : List (Int × Int)) (w : World) (e : Ending) (w' : World) : Prop :=
  ∃ v', e = .returned (.int .i64 (setE t)) ∧ RTabAt w' q v' now (rel now (setS now id t L)) ∧ Fr (S1 q) w w'
theorem rset_S (h : RTabAt w q v now (rel now L)) (hl : L.length ≤ 1000) :
    Calls Try.prog 22 #[.pointer (some ⟨q, 0, none⟩), .int .i64 id, .int .i64 t] w (RSetS q id t now L w) := by
  by_cases ht : 1 ≤ t ∧ t ≤ 1000000
  · have ho : okT t = true := by simpa [okT] using ht
    refine (rset_yes q v id t now (rel now L) w h (by rw [rel_len]; exact hl) ht.1 ht.2).mono fun e w' hh => ?_
    obtain ⟨v', h1, h2, h3⟩ := hh
    refine ⟨v', by rw [h1]; simp [setE, ho], ?_, h3⟩
    rw [rel_put] at h2
    simp only [setS, ho, if_true]
    exact h2
  · have ho : okT t = false := by simpa [okT] using ht
    refine (rset_bad q v id t now (rel now L) w h (by omega)).mono fun e w' hh => ?_
    obtain ⟨h1, rfl⟩ := hh
    refine ⟨v, by rw [h1]; simp [setE, ho], ?_, Fr.refl _ _⟩
    simpa [setS, ho] using h
def RStopS (q : Nat) (id now : Int) (L : List (Int × Int)) (w : World) (e : Ending) (w' : World) : Prop :=
  ∃ v', e = .returned (.bool (get id L).isSome) ∧ RTabAt w' q v' now (rel now (del id L)) ∧ Fr (S1 q) w w'
theorem rstop_S (h : RTabAt w q v now (rel now L)) (hl : L.length ≤ 1000) :
    Calls Try.prog 23 #[.pointer (some ⟨q, 0, none⟩), .int .i64 id] w (RStopS q id now L w) := by
  refine (rstop_any q v id now (rel now L) w h (by rw [rel_len]; exact hl)).mono fun e w' hh => ?_
  obtain ⟨v', h1, h2, h3⟩ := hh
  rw [isSome_rel] at h1
  rw [rel_del] at h2
  exact ⟨v', h1, h2, h3⟩
def RTickS (q : Nat) (now : Int) (L : List (Int × Int)) (w : World) (e : Ending) (w' : World) : Prop :=
  ∃ u v', e = .returned u ∧ IntRow w' w.heap.size u (outT now L) ∧ RTabAt w' q v' (now + 1) (rel (now + 1) (restT now L)) ∧ Fr (S1 q) w w'
theorem rtick_S (h : RTabAt w q v now (rel now L)) (hg : Good now L) :
    Calls Try.prog 24 #[.pointer (some ⟨q, 0, none⟩)] w (RTickS q now L w) := by
  refine (rtick_any q v now (rel now L) w h (by rw [rel_len]; exact hg.len) hg.lo hg.hi (fun p hp => ?_)).mono fun e w' hh => ?_
  · simp only [rel, List.mem_map] at hp
    obtain ⟨a, ha, rfl⟩ := hp
    have := hg.ends a ha
    simp only
    omega
  · obtain ⟨u, v', h1, h2, h3, h4⟩ := hh
    rw [rel_out hg] at h2
    rw [rel_rest hg] at h3
    exact ⟨u, v', h1, h2, h3, h4⟩
end

def S3 (p m q : Nat) : Nat → Prop := fun i => i = p ∨ i = m ∨ i = q
/-- The pair that was copied, if any: apart from the blocks S. -/
def OldOk (w : World) (S : Nat → Prop) (a b : Value) : Prop :=
  (a = .pointer none ∧ b = .pointer none) ∨ ∃ p m q v now M, a = .pointer (some ⟨p, 0, none⟩) ∧ b = .pointer (some ⟨q, 0, none⟩) ∧ TS w p m now M ∧ RTabAt w q v now (rel now M) ∧
    ¬ S p ∧ ¬ S m ∧ ¬ S q ∧ ∀ g, v.ownBlock = some g → ¬ S g
theorem OldOk.fr {w w' : World} {S : Nat → Prop} {a b : Value} (h : OldOk w S a b) (k : Fr S w w') : OldOk w' S a b := by
  rcases h with h | ⟨p, m, q, v, now, M, h1, h2, h3, h4, h5, h6, h7, h8⟩
  · exact .inl h
  · exact .inr ⟨p, m, q, v, now, M, h1, h2, h3.fr k h5 h6, h4.fr k h7 h8, h5, h6, h7, h8⟩
theorem old_shows {w : World} {S : Nat → Prop} {a b : Value} (id : Int) (h : OldOk w S a b) (hid : in64 id) :
    Calls Try.prog 27 #[a, b, .int .i64 id] w fun e w' => e = .returned (.bool true) ∧ Below w.heap.size w w' := by
  rcases h with ⟨rfl, rfl⟩ | ⟨p, m, q, v, now, M, rfl, rfl, h3, h4, _⟩
  · exact shows_nil id w
  · exact shows_any p m q v now id M w h3 h4 hid

/-- The pair at hand. -/
structure Pair (w : World) (p m q : Nat) (v : Value) (now : Int) (M : List (Int × Int)) : Prop where
  prog : TS w p m now M
  ref : RTabAt w q v now (rel now M)
namespace Pair
variable {w w' : World} {p m q : Nat} {v : Value} {now : Int} {M : List (Int × Int)}
theorem pq (h : Pair w p m q v now M) : p ≠ q := h.prog.tab.blk.ne_type h.ref.blk (by decide)
theorem mq (h : Pair w p m q v now M) : m ≠ q := by
  obtain ⟨es, c, hm⟩ := h.prog.tab.map.block
  exact fun e => h.ref.blk.ne_map hm e.symm
theorem pv (h : Pair w p m q v now M) : ∀ g, v.ownBlock = some g → g ≠ p := row_ne_blk h.ref.row h.prog.tab.blk (by decide)
theorem mv (h : Pair w p m q v now M) : ∀ g, v.ownBlock = some g → g ≠ m := by
  obtain ⟨es, c, hm⟩ := h.prog.tab.map.block
  exact row_ne_map h.ref.row hm
theorem qv (h : Pair w p m q v now M) : ∀ g, v.ownBlock = some g → g ≠ q := row_ne_blk h.ref.row h.ref.blk (by decide)
theorem below (h : Pair w p m q v now M) (hb : Below w.heap.size w w') : Pair w' p m q v now M := ⟨h.prog.below hb, h.ref.below hb⟩
theorem drew (h : Pair w p m q v now M) : Pair w.drew p m q v now M := ⟨h.prog.drew, ⟨h.ref.blk, h.ref.row⟩⟩
/-- The reference's table behind a step of the program's. -/
theorem refM (h : Pair w p m q v now M) (k : Fr (S1 m) w w') : RTabAt w' q v now (rel now M) := h.ref.fr k (fun e => h.mq (by have e : q = m := e; exact e.symm)) (fun g hg e => h.mv g hg e)
theorem refT (h : Pair w p m q v now M) (k : Fr (S2 p m) w w') : RTabAt w' q v now (rel now M) :=
  h.ref.fr k (fun e => by rcases e with e | e; exact h.pq e.symm; exact h.mq e.symm) (fun g hg e => by rcases e with e | e; exact h.pv g hg e; exact h.mv g hg e)
end Pair
end Go.Proofs.Ytmojdafegljghaa
