/- Package learn: climb, Chosen, Votes, Upto, put. -/
import Derived.Test.YtnnadpbfidfhoaaLearnB
import Derived.Deep.LoopGhost
set_option linter.unusedVariables false
set_option linter.unusedSimpArgs false
namespace Go.Proofs.Ytnnadpbfidfhoaa
open Go.RowKit Go.Maps Go.Shelf

/-- How many entries lie from slot u on. -/
def from_ (u : Int) (L : KL) : Nat := L.countP fun p => decide (u ≤ p.1)
theorem from_step {u : Int} {L : KL} (h : (kget u L).c = true) : from_ (u + 1) L < from_ u L := by
  have hm : ∃ e, (u, e) ∈ L := by
    unfold kget at h
    cases hg : get u L with
    | none => rw [hg] at h; simp [kn0] at h
    | some e => exact ⟨e, get_mem hg⟩
  obtain ⟨e, he⟩ := hm
  unfold from_
  clear h
  induction L with
  | nil => simp at he
  | cons x r ih =>
    have hle : r.countP (fun p => decide (u + 1 ≤ p.1)) ≤ r.countP (fun p => decide (u ≤ p.1)) := List.countP_mono_left fun p _ hp => by simp at hp ⊢; omega
    rw [List.countP_cons, List.countP_cons]
    rcases List.mem_cons.1 he with h0 | h0
    · subst h0
      have e1 : decide (u + 1 ≤ ((u, e) : Int × Kn).1) = false := by simp only [decide_eq_false_iff_not]; omega
      have e2 : decide (u ≤ ((u, e) : Int × Kn).1) = true := by simp
      rw [e1, e2]
      simp
      omega
    · have := ih h0
      by_cases h1 : u + 1 ≤ x.1
      · have h2 : u ≤ x.1 := by omega
        simp [h1, h2]
        omega
      · by_cases h2 : u ≤ x.1 <;> simp [h1, h2] <;> omega
/-- The slots are below 4096. -/
def KIn (L : KL) : Prop := ∀ q ∈ L, 0 ≤ q.1 ∧ q.1 < 4096
theorem kin_chosen {L : KL} {u : Int} (h : KIn L) (hc : (kget u L).c = true) : 0 ≤ u ∧ u < 4096 := by
  unfold kget at hc
  cases hg : get u L with
  | none => rw [hg] at hc; simp [kn0] at hc
  | some e => exact h _ (get_mem hg)
/-- u' is the first slot from u on that is not chosen. -/
structure Climbs (L : KL) (u u' : Int) : Prop where
  le : u ≤ u'
  all : ∀ i, u ≤ i → i < u' → (kget i L).c = true
  stop : (kget u' L).c = false

set_option maxRecDepth 100000 in
set_option maxHeartbeats 2000000 in
theorem climb_any (p m : Nat) (n base u : Int) (L : KL) (w : World) (h : LAt w p m n base u L) (hu : 0 ≤ u ∧ u ≤ 4096) (hL : KIn L) :
    Calls Try.prog 37 #[.pointer (some ⟨p, 0, none⟩)] w fun e w' => e = .returned (.tuple #[]) ∧ ∃ u', Climbs L u u' ∧ u' ≤ 4096 ∧ LAt w' p m n base u' L ∧ Fr (S1 p) w w' := by
  have HT := Lib.hid h
  have HL := Lib.hid hL
  clear h hL
  go_enter Try.func37, Try.ntmps37
  go_wp2_with fail
  go_loopg [] (from_ u L) (fun g wr => ∃ x : Int, g = from_ x L ∧ u ≤ x ∧ x ≤ 4096 ∧ (∀ i, u ≤ i → i < x → (kget i L).c = true) ∧ LAt wr p m n base x L ∧ Fr (S1 p) w wr)
  case atStart => exact ⟨u, rfl, by omega, by omega, fun i h1 h2 => by omega, HT.out, Fr.refl _ _⟩
  case round =>
    obtain ⟨x, rfl, hux, hx, hall, ht, hf⟩ := hrel
    have T := Lib.hid ht
    have F := Lib.hid hf
    have A := Lib.hid hall
    have c2 := ht.c2
    have c3 := ht.c3
    have hlk := look_run ht.map x ⟨by omega, by omega⟩
    have hlk2 := look_run ht.drew.map x ⟨by omega, by omega⟩
    have hm := ht.map
    have HM := Lib.hid hm
    clear ht hf hall hm
    obtain ⟨⟨kc, kv, kr, kd, kvo, ks⟩, hk⟩ : ∃ e, kget x L = e := ⟨_, rfl⟩
    rw [hk] at hlk hlk2
    simp only [knV] at hlk hlk2
    have HK := Lib.hid hk
    clear hk
    have hfd : ∀ W : World, (Instr.field 77 (.agg #[.bool kc, .string kv, .int .i64 kr, .int .i64 kd, .string kvo, .int .u64 (ks : Int)]) 0).run Try.prog W = .ok (.bool kc) W := fun _ => by kernel_rfl
    cases kc with
    | true =>
      go_wp2_with fail
      go_region_held3 (fun W => W.cell? ⟨p, 2, none⟩ = some (.int .i64 x) ∧ W.cell? ⟨p, 3, none⟩ = some (.map (some m)) ∧ (Instr.lookup 63 (.map (some m)) (.int .i64 x) false).run Try.prog W = .ok (.agg #[.bool true, .string kv, .int .i64 kr, .int .i64 kd, .string kvo, .int .u64 (ks : Int)]) W)
        (first | exact ⟨by assumption, by assumption, by assumption⟩ | go_keep)
        (first | fail)
      have hc : (kget x L).c = true := by rw [HK.out]
      have h40 := kin_chosen HL.out hc
      have hx1 : x + 1 ≤ 4096 := by omega
      have f2 := T.out.blk.frozen 2
      have T2 := T.out.drew
      have d2 := T2.c2
      have f2' := T2.blk.frozen 2
      clear c2 c3 hlk hlk2
      go_wp2_with fail
      go_roundg (from_ (x + 1) L)
      case measure => exact from_step hc
      case rel =>
        have hf : Fr (S1 p) wr (wr.drew.setCell ⟨p, 2, none⟩ (.int .i64 (x + 1))) := ((Fr.refl (S1 p) wr).drew).setCell (p := ⟨p, 2, none⟩) (.inl (show S1 p p from rfl)) _
        refine ⟨x + 1, rfl, by omega, hx1, fun i h1 h2 => ?_, ⟨T2.blk.set 2 _, ?_⟩, F.out.trans hf⟩
        · by_cases e : i = x
          · rw [e]; exact hc
          · exact A.out i h1 (by omega)
        · exact T.out.map.of_block (hf.block m T.out.map.lt (fun e => T.out.ne e.symm))
    | false =>
      go_wp2_with fail
      go_region_held3 (fun W => W.cell? ⟨p, 2, none⟩ = some (.int .i64 x) ∧ W.cell? ⟨p, 3, none⟩ = some (.map (some m)) ∧ (Instr.lookup 63 (.map (some m)) (.int .i64 x) false).run Try.prog W = .ok (.agg #[.bool false, .string kv, .int .i64 kr, .int .i64 kd, .string kvo, .int .u64 (ks : Int)]) W)
        (first | exact ⟨by assumption, by assumption, by assumption⟩ | go_keep)
        (first | fail)
      have hc : (kget x L).c = false := by rw [HK.out]
      go_wp2_with fail
      go_returns
      exact ⟨rfl, x, ⟨hux, A.out, hc⟩, hx, T.out.drew, F.out.drew⟩
end Go.Proofs.Ytnnadpbfidfhoaa
