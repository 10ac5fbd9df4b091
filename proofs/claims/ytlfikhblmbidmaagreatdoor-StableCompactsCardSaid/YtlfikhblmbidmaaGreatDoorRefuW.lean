/- stable: what is refused without a disk, an acceptor or a log. -/
import Derived.Test.YtlfikhblmbidmaaGreatDoorWksA
set_option linter.unusedVariables false
set_option linter.unusedSimpArgs false
namespace Go.Proofs.YtlfikhblmbidmaaGreatDoor
open Go.RowKit Go.Maps

theorem recover_nil (n : Int) (w : World) : Calls Tryz.prog 15 #[.int .i64 n, .pointer none] w fun e w' => e = .returned (.tuple #[.pointer none, .pointer none, .int .i64 1]) ∧ Below w.heap.size w w' := by
  go_enter Tryz.func15, Tryz.ntmps15
  go_wp2_with (go_at_call 58; refine (dcopy_nil _).mono ?_; rintro e w2 ⟨rfl, rfl⟩)
  go_returns
  exact ⟨rfl, (Below.refl _ w).alloc (Nat.le_refl _) _⟩
set_option maxRecDepth 100000 in
set_option maxHeartbeats 2000000 in
theorem recover_bad {w : World} {dp dq : Nat} {v sv : Value} {ds : DSt} (n : Int) (hn : ¬ okN n) (h : DiskAt w dp dq v sv ds) (hg : DGood ds) :
    Calls Tryz.prog 15 #[.int .i64 n, .pointer (some ⟨dp, 0, none⟩)] w fun e w' => e = .returned (.tuple #[.pointer none, .pointer none, .int .i64 2]) ∧ Below w.heap.size w w' := by
  have hb1 : Below w.heap.size w (w.alloc (.cells #[.int .i64 n] 3)) := (Below.refl _ w).alloc (Nat.le_refl _) _
  have q1 := (Blk.new w 3 #[.int .i64 n]).cell (i := 0) (v := .int .i64 n) rfl
  have H1 := Lib.hid (h.below hb1)
  have HB1 := Lib.hid hb1
  clear h hb1
  go_enter Tryz.func15, Tryz.ntmps15
  go_wp2_with (first
    | (go_at_call 58; refine (dcopy_any H1.out hg).mono ?_; rintro e w2 ⟨cp, cq, cv, csv, rfl, _, _, hb2⟩; have q2 := bcell hb2 q1; have HB2 := Lib.hid hb2; clear hb2)
    | (go_at_call 69; refine (new_bad n _ hn).mono ?_; rintro e w3 ⟨rfl, rfl⟩))
  go_returns
  exact ⟨rfl, bchain HB1.out HB2.out⟩
theorem acopy_nil (w : World) : Calls Tryz.prog 60 #[.pointer none] w fun e w' => e = .returned (.pointer none) ∧ w = w' := by
  go_enter Tryz.func60, Tryz.ntmps60
  go_wp2_with (go_at_call 119; refine (avalid_nil w).mono ?_; rintro e w' ⟨rfl, rfl⟩)
  go_returns
  exact ⟨rfl, rfl⟩
set_option maxRecDepth 100000 in
set_option maxHeartbeats 2000000 in
theorem compact_n1 (x y : Value) (w : World) : Calls Tryz.prog 17 #[.pointer none, x, y] w fun e w' => e = .returned (.int .i64 1) ∧ Below w.heap.size w w' := by
  go_enter Tryz.func17, Tryz.ntmps17
  go_wp2_with (go_at_call 58; refine (dcopy_nil _).mono ?_; rintro e w2 ⟨rfl, rfl⟩)
  go_returns
  exact ⟨rfl, Below.refl _ _⟩
set_option maxRecDepth 100000 in
set_option maxHeartbeats 2000000 in
theorem compact_n2 {w : World} {dp dq : Nat} {v sv : Value} {ds : DSt} (y : Value) (h : DiskAt w dp dq v sv ds) (hg : DGood ds) :
    Calls Tryz.prog 17 #[.pointer (some ⟨dp, 0, none⟩), .pointer none, y] w fun e w' => e = .returned (.int .i64 1) ∧ Below w.heap.size w w' := by
  have H := Lib.hid h
  clear h
  go_enter Tryz.func17, Tryz.ntmps17
  go_wp2_with (first
    | (go_at_call 58; refine (dcopy_any H.out hg).mono ?_; rintro e w2 ⟨_, _, _, _, rfl, _, _, hb2⟩; have HB2 := Lib.hid hb2; clear hb2)
    | (go_at_call 60; refine (acopy_nil _).mono ?_; rintro e w3 ⟨rfl, rfl⟩))
  go_returns
  exact ⟨rfl, HB2.out⟩
set_option maxRecDepth 100000 in
set_option maxHeartbeats 2000000 in
theorem compact_n3 {w : World} {dp dq a m : Nat} {v sv : Value} {ds : DSt} {s : ASt} (h : DiskAt w dp dq v sv ds) (hg : DGood ds) (ha : AS w a m s) :
    Calls Tryz.prog 17 #[.pointer (some ⟨dp, 0, none⟩), .pointer (some ⟨a, 0, none⟩), .pointer none] w fun e w' => e = .returned (.int .i64 1) ∧ Below w.heap.size w w' := by
  have H := Lib.hid h
  have HA := Lib.hid ha
  clear h ha
  go_enter Tryz.func17, Tryz.ntmps17
  go_wp2_with (first
    | (go_at_call 58; refine (dcopy_any H.out hg).mono ?_; rintro e w2 ⟨_, _, _, _, rfl, _, _, hb2⟩; have HB2 := Lib.hid hb2; have HA2 := Lib.hid (HA.out.below hb2); clear hb2)
    | (go_at_call 60; refine (copy_S a m _ w2 HA2.out).mono ?_; rintro e w3 ⟨_, _, rfl, _, _, _, hb3⟩; have HB3 := Lib.hid (bchain HB2.out hb3); clear hb3)
    | (go_at_call 61; refine (lcopy_nil _).mono ?_; rintro e w4 ⟨rfl, rfl⟩))
  go_returns
  exact ⟨rfl, HB3.out⟩
theorem write_nil (u : Value) (w : World) : Calls Tryz.prog 16 #[.pointer none, u] w fun e w' => e = .returned (.int .i64 1) ∧ Below w.heap.size w w' :=
  write_err u 1 w _ (by decide) ((dapp_nil u w).mono (by rintro e w' ⟨rfl, rfl⟩; exact ⟨rfl, Below.refl _ _⟩))

abbrev recH : Rec := ⟨1, 9, 2, 0, []⟩
abbrev recL : Rec := ⟨1, 3, 1, 0, []⟩
abbrev bH : List UInt8 := [1, 9, 2]
abbrev bL : List UInt8 := [1, 3, 1]
theorem bytesH : recH.bytes = bH := by simp [Rec.bytes, uintB_lt]
theorem bytesL : recL.bytes = bL := by simp [Rec.bytes, uintB_lt]
theorem parH : parseP bH = some recH := by
  rw [← bytesH]
  exact parseP_enc ⟨by decide, by decide, by decide, by decide, by decide, by decide⟩ (by rw [bytesH]; decide)
theorem parL : parseP bL = some recL := by
  rw [← bytesL]
  exact parseP_enc ⟨by decide, by decide, by decide, by decide, by decide, by decide⟩ (by rw [bytesL]; decide)
def nH : NSt := ⟨⟨3, 9, 2, 0, []⟩, newLog⟩
theorem recH2 : recR (newN 2) [bH] = none := by rw [recR_bad parH (by decide)]
theorem doH3 : doE (newN 3) recH = 0 ∧ doS (newN 3) recH = nH := by constructor <;> rfl
theorem recH3 : recR (newN 3) [bH] = some nH := by rw [recR_step parH doH3.1, doH3.2]; rfl
theorem recL3 : recR (newN 3) [bH, bL] = none := by rw [recR_step parH doH3.1, doH3.2, recR_bad parL (by decide)]
theorem frH : (allF ([] ++ frameB bH)).1 = [bH] := by
  have := allF_only (l := [bH]) (by simp)
  simpa [framesB] using congrArg Prod.fst this
theorem frL : (allF (([] ++ frameB bH) ++ frameB bL)).1 = [bH, bL] := by
  have := allF_only (l := [bH, bL]) (by simp)
  simpa [framesB] using congrArg Prod.fst this
theorem frN : (allF []).1 = [] := by rw [allF_none nextF_nil]
/-- The first record written: other bytes stay. -/
theorem write_first {w0 X : World} {p q : Nat} {b : List UInt8} (u : Value) (bs : List UInt8) (h : DkB w0 p q (.slice none 0 0) (.slice none 0 0) (sD b) X) (hF : FoursAt X) (hu : BsIn X u bs) (hl : bs.length ≤ 65536) (hf : b.length + 8 + bs.length ≤ 16777216) :
    Calls Tryz.prog 16 #[.pointer (some ⟨p, 0, none⟩), u] X fun e Y => e = .returned (.int .i64 0) ∧ ∃ v', DkB w0 p q v' (.slice none 0 0) (sD (b ++ frameB bs)) Y ∧
      ∀ (lo : Nat) (z : Value) (n : Nat) (xs : List Value), X.ownsRow lo 5 1 z n xs → Y.ownsRow lo 5 1 z n xs := by
  refine (write_yes u bs h.at_ (sD_good (by omega)) hF hu hl hf).mono ?_
  rintro e Y ⟨rfl, v', hs⟩
  refine ⟨rfl, v', h.step hs, fun lo z n xs hz => row_fr hz hs.fr (fun i hi e => ?_)⟩
  rcases e with rfl | rfl | e | e
  · exact row_type hz (T := 109) (by decide) i hi _ _ h.at_.d
  · exact row_type hz (T := 107) (by decide) i hi _ _ h.at_.l
  · cases e
  · cases e
/-- Recover on a disk without a snapshot, the records known. -/
theorem recover_some {w0 X : World} {p q : Nat} {v sv : Value} {b : List UInt8} (n : Int) (hn : okN n) (h : DkB w0 p q v sv (sD b) X) (hb : b.length ≤ 16777216) (hF : FoursAt X) {l : List (List UInt8)} (hl : (allF b).1 = l) {t : NSt} (hr : recR (newN n) l = some t) :
    Calls Tryz.prog 15 #[.int .i64 n, .pointer (some ⟨p, 0, none⟩)] X fun e Y => ∃ a m c k, e = .returned (.tuple #[.pointer (some ⟨a, 0, none⟩), .pointer (some ⟨c, 0, none⟩), .int .i64 0]) ∧ NS Y a m c k t ∧ Below X.heap.size X Y := by
  have hr2 := recover_any n hn h.at_ (sD_good hb) hF rfl
  rw [show (allF (sD b).b).1 = l from hl, hr] at hr2
  refine hr2.mono ?_
  rintro e Y ⟨hb, a, m, c, k, he, hns, _⟩
  exact ⟨a, m, c, k, he, hns, hb⟩
theorem recover_none {w0 X : World} {p q : Nat} {v sv : Value} {b : List UInt8} (n : Int) (hn : okN n) (h : DkB w0 p q v sv (sD b) X) (hb : b.length ≤ 16777216) (hF : FoursAt X) {l : List (List UInt8)} (hl : (allF b).1 = l) (hr : recR (newN n) l = none) :
    Calls Tryz.prog 15 #[.int .i64 n, .pointer (some ⟨p, 0, none⟩)] X fun e Y => e = .returned (.tuple #[.pointer none, .pointer none, .int .i64 10]) ∧ Below X.heap.size X Y := by
  have hr2 := recover_any n hn h.at_ (sD_good hb) hF rfl
  rw [show (allF (sD b).b).1 = l from hl, hr] at hr2
  refine hr2.mono ?_
  rintro e Y ⟨hb, he⟩
  exact ⟨he, hb⟩
end Go.Proofs.YtlfikhblmbidmaaGreatDoor
