/- Package clock: Ids, Copy, Tick. -/
import Derived.Test.YtmojdafegljghaaClockA
import Derived.Test.YtmojdafegljghaaRows2
set_option linter.unusedVariables false
set_option linter.unusedSimpArgs false
namespace Go.Proofs.Ytmojdafegljghaa
open Go.RowKit Go.Maps Go.Shelf

theorem keys_enc (L : List (Int × Int)) : keys (enc L) = keys L := by simp [keys, enc]

set_option maxHeartbeats 400000 in
theorem ids_any (p m : Nat) (now : Int) (L : List (Int × Int)) (w : World) (h : TabAt w p m now L) (hl : L.length ≤ 1000) :
    Calls Try.prog 19 #[.pointer (some ⟨p, 0, none⟩)] w fun e w' => ∃ v, e = .returned v ∧ IntRow w' w.heap.size v (keys L) ∧ Below w.heap.size w w' := by
  have c1 := h.c1
  have HT := Lib.hid h
  clear h
  go_enter Try.func19, Try.ntmps19
  go_wp2_with (first
    | (go_at_call 28; refine (tvalid p m _ c1).mono ?_; rintro e w' ⟨rfl, rfl⟩)
    | (go_at_call 31; refine (mkeys _ _).mono ?_; rintro e w' ⟨rfl, rfl⟩)
    | (go_at_call 30; refine (msorted m _ (enc L) _ (by simp) (by simp [go_sem]) (HT.out.alloc _).map (by rw [enc_length]; omega)).mono ?_; rintro e w2 ⟨v, rfl, hr2, hb2⟩))
  go_ret
  rw [keys_enc] at hr2
  exact ⟨v, rfl, hr2.lower (by simp), ((Below.refl _ _).alloc (Nat.le_refl _) _).trans (hb2.mono (by simp))⟩

theorem mclone (b : Nat) (es : Array MapEntry) (clock : Nat) (w : World) (hb : w.heap[b]? = some (.map es clock)) :
    Calls Try.prog 33 #[.map (some b)] w fun e w' => e = .returned (.map (some w.heap.size)) ∧ w' = w.alloc (.map es clock) :=
  AnyW.maps_Clone Try.cloneM b es clock w hb

def CopyPost (now : Int) (L : List (Int × Int)) (w : World) (e : Ending) (w' : World) : Prop :=
  ∃ p' m', e = .returned (.pointer (some ⟨p', 0, none⟩)) ∧ TabAt w' p' m' now L ∧ w.heap.size ≤ p' ∧ w.heap.size ≤ m' ∧ Below w.heap.size w w'

theorem copy_done {p m : Nat} {now : Int} {L : List (Int × Int)} {w : World} {es : Array MapEntry} {clock : Nat} (h : TabAt w p m now L) (hm : w.heap[m]? = some (.map es clock)) (w0 : World) (h0 : w0.heap = w.heap) (hb : Below w.heap.size w w0) :
    CopyPost now L w (.returned (.pointer (some ⟨w.heap.size + 1, 0, none⟩))) ((w0.alloc (.map es clock)).alloc (.cells #[.int .i64 now, .map (some w.heap.size)] 48)) := by
  have hs : w0.heap.size = w.heap.size := by rw [h0]
  refine ⟨w.heap.size + 1, w.heap.size, rfl, ⟨?_, ?_⟩, by omega, Nat.le_refl _, (hb.alloc (by omega) _).alloc (by simp; omega) _⟩
  · have := Blk.new (w0.alloc (.map es clock)) 48 #[.int .i64 now, .map (some w.heap.size)]
    rwa [World.size_alloc, hs] at this
  · refine h.map.clone hm ?_
    rw [Below.heap_alloc _ _ _ (by simp; omega), ← hs]
    exact (MapKept.heap_alloc w0 _).1

set_option maxHeartbeats 400000 in
theorem copy_any (p m : Nat) (now : Int) (L : List (Int × Int)) (w : World) (h : TabAt w p m now L) :
    Calls Try.prog 25 #[.pointer (some ⟨p, 0, none⟩)] w (CopyPost now L w) := by
  have c0 := h.c0
  have c1 := h.c1
  obtain ⟨es, clock, hm⟩ := h.map.block
  have hp := h.blk.lt
  have HT := Lib.hid h
  have HM := Lib.hid hm
  clear h hm
  go_enter Try.func25, Try.ntmps25
  go_wp2_with (first
    | (go_at_call 28; refine (tvalid p m _ c1).mono ?_; rintro e w' ⟨rfl, rfl⟩))
  go_region_with (go_at_call 33; refine (mclone m es clock _ (by exact HM.out)).mono ?_; rintro e w' ⟨rfl, rfl⟩)
  all_goals
    go_wp2
    go_ret
    exact copy_done HT.out HM.out w.drew rfl (Below.refl _ _).drew
end Go.Proofs.Ytmojdafegljghaa
