/- slices.SortStableFunc of a row of votes, an empty one too. -/
import Derived.Test.YthkdmpalhdifbaaGreatDoorStabD
set_option linter.unusedVariables false
set_option linter.unusedSimpArgs false
namespace Go.Proofs.YthkdmpalhdifbaaGreatDoor
open Go.RowKit Go.Maps Go.Shelf Go.Sort

set_option maxRecDepth 100000 in
set_option maxHeartbeats 2000000 in
theorem insertion_nil (w : World) :
    Calls Tryz.prog 72 #[.slice none 0 0, .int .i64 0, .int .i64 0, cmpV] w fun e w' => e = .returned (.tuple #[]) ∧ w = w' := by
  go_enter Tryz.func72, Tryz.ntmps72
  go_wp2_with fail
  go_loopg [8] 0 (fun gh c wr => c = .int .i64 1 ∧ gh = 0 ∧ wr = w)
  case atStart => exact ⟨rfl, rfl, rfl⟩
  case round =>
    obtain ⟨rfl, rfl, hwr⟩ := hrel
    subst hwr
    go_wp2_with fail
    go_end0
    exact ⟨rfl, rfl⟩
set_option maxRecDepth 100000 in
set_option maxHeartbeats 2000000 in
theorem stable_nil (w : World) :
    Calls Tryz.prog 49 #[.slice none 0 0, .int .i64 0, cmpV] w fun e w' => e = .returned (.tuple #[]) ∧ w = w' := by
  go_enter Tryz.func49, Tryz.ntmps49
  go_wp2_with fail
  go_loopg [7, 8] 0 (fun gh c d wr => c = .int .i64 0 ∧ d = .int .i64 20 ∧ gh = 0 ∧ wr = w)
  case atStart => exact ⟨rfl, rfl, rfl, rfl⟩
  case round =>
    obtain ⟨rfl, rfl, rfl, hwr⟩ := hrel
    subst hwr
    go_wp2_with (go_at_call 72; refine (insertion_nil _).mono ?_; rintro e w2 ⟨rfl, rfl⟩)
    go_loopg [6] 0 (fun gh c wr2 => c = .int .i64 20 ∧ gh = 0 ∧ wr2 = wr)
    case atStart => exact ⟨rfl, rfl, rfl⟩
    case round =>
      obtain ⟨rfl, rfl, hwr⟩ := hrel
      subst hwr
      go_wp2_with fail
      go_end0
      exact ⟨rfl, rfl⟩
set_option maxRecDepth 100000 in
set_option maxHeartbeats 2000000 in
theorem sortStable_nil (w : World) :
    Calls Tryz.prog 28 #[.slice none 0 0, cmpV] w fun e w' => e = .returned (.tuple #[]) ∧ w = w' := by
  go_enter Tryz.func28, Tryz.ntmps28
  go_wp2_with (go_at_call 49; refine (stable_nil _).mono ?_; rintro e w2 ⟨rfl, rfl⟩)
  go_end0
  exact ⟨rfl, rfl⟩
theorem RowB.of_block {w : World} {lo g cap : Nat} {cur : Array Value} {L : List Vt} (hB : Blk w g 35 cur) (htake : cur.toList.take (flat encVt L).length = flat encVt L) : RowB encVt w g L :=
  ⟨hB.lt, fun t u hu => hB.cell (by
    have hl := (List.getElem?_eq_some_iff.1 hu).1
    rw [← htake, List.getElem?_take, if_pos hl] at hu
    rw [← Array.getElem?_toList]
    exact hu), fun t => hB.frozen t⟩
theorem sortStable_row (v : Value) (L : List Vt) (lo : Nat) (w : World) (hv : VtRow w lo v L) (hlo : lo ≤ w.heap.size) (hbig : L.length ≤ 4294967296) (hok : ∀ x ∈ L, okK x) :
    Calls Tryz.prog 28 #[v, cmpV] w fun e w' => ∃ R, e = .returned (.tuple #[]) ∧ Srtd L R ∧ VotesIn w' v R ∧ Below lo w w' := by
  rcases hv.2 with ⟨rfl, hn⟩ | ⟨g, cap, cur, rfl, hb, hg, hle, hcap, hsz, htake⟩
  · obtain rfl : L = [] := List.length_eq_zero_iff.1 hn
    exact (sortStable_nil w).mono fun e w' ⟨he, hw⟩ => ⟨[], he, ⟨KSame.refl _, KSort.nil⟩, ⟨none, 0, rfl, Nat.le_refl _, Nat.zero_le _, fun h => absurd h (by simp)⟩, by rw [← hw]; exact Below.refl _ _⟩
  · have hR : RowB encVt w g L := RowB.of_block (lo := lo) (cap := cap) hg (by
      rw [flat_length (enc := encVt) (k := 5) evl]; exact htake)
    refine (sortStable_any g cap L w hR hle hcap hbig hok).mono fun e w' ⟨R, he, hs, hr, hf⟩ => ⟨R, he, hs, ?_, hf.below hlo (fun i e => by have e : i = g := e; omega)⟩
    have hl : L.length = R.length := hs.1.length
    rw [hl]
    exact hr.votes (by omega) hcap
end Go.Proofs.YthkdmpalhdifbaaGreatDoor
