/- StableCompacts: recovering from a snapshot; compacting. -/
import Derived.Test.YtlfikhblmbidmaaGreatDoorCmpS
import Derived.Test.YtlfikhblmbidmaaGreatDoorKeepC
set_option linter.unusedVariables false
set_option linter.unusedSimpArgs false
namespace Go.Proofs.YtlfikhblmbidmaaGreatDoor
open Go.RowKit Go.Maps

theorem recO_hist {st : List UInt8} {t0 t : NSt} {b : List UInt8} (h : loadS 3 st = some t0) (hh : Hist t0 t b) : recO 3 (sK b st true) = some t := by
  unfold recO
  rw [if_pos rfl]
  show (loadS 3 st).bind _ = _
  rw [h]
  exact hh.rec_
theorem recover_snapK {w0 X : World} {p q : Nat} {v sv : Value} {b st : List UInt8} {t0 t : NSt} (h : DkB w0 p q v sv (sK b st true) X) (hb : b.length ≤ 100000) (hs : st.length ≤ 65536) (hF : FoursAt X) (hl : loadS 3 st = some t0) (hh : Hist t0 t b) :
    Calls Tryz.prog 15 #[.int .i64 3, .pointer (some ⟨p, 0, none⟩)] X fun e Y => ∃ a m l k, e = .returned (.tuple #[.pointer (some ⟨a, 0, none⟩), .pointer (some ⟨l, 0, none⟩), .int .i64 0]) ∧ NS Y a m l k t ∧ (∀ i, nF a m l k i → X.heap.size ≤ i) ∧ Below X.heap.size X Y := by
  refine (recover_all 3 ⟨by decide, by decide⟩ h.at_ (sK_good (by omega) hs) hF (fun _ => by show st.length ≤ 100000000; omega)).mono fun e Y hr => ?_
  rw [recO_hist hl hh] at hr
  obtain ⟨hb, a, m, l, k, he, hn, hlo⟩ := hr
  exact ⟨a, m, l, k, he, hn, hlo, hb⟩
theorem compactK {X : World} {a m l k p q : Nat} {v sv : Value} {ds : DSt} {t : NSt} (h : DiskAt X p q v sv ds) (hg : DGood ds) (hn : NS X a m l k t) (hs : (snapB t).length ≤ 65536) (hV : ∀ x ∈ t.a.L, x.2.2.2.size ≤ 65536) :
    Calls Tryz.prog 17 #[.pointer (some ⟨p, 0, none⟩), .pointer (some ⟨a, 0, none⟩), .pointer (some ⟨l, 0, none⟩)] X fun e Y => e = .returned (.int .i64 0) ∧ ∃ sv', DStep X p q v sv Y (.slice none 0 0) sv' (sK [] (snapB t) true) :=
  (compact_any h hg hn (by omega) hV).mono fun e Y hr => hr.2 hs
theorem newN_L (n : Int) : ∀ x ∈ (newN n).a.L, x.2.2.2.size ≤ 65536 := fun x hx => by simp [newN, newS] at hx
theorem body_new (n : Int) : body (newN n) = 0 := rfl
end Go.Proofs.YtlfikhblmbidmaaGreatDoor
