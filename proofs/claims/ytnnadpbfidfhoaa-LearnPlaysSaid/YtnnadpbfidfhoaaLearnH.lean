/- Package learn: Open, Copy; Add in one. -/
import Derived.Test.YtnnadpbfidfhoaaLearnG
import Derived.Test.YtnnadpbfidfhoaaRowsL
import Derived.Test.YtnnadpbfidfhoaaSrowE
import Derived.Deep.LoopGhost
import Derived.Maps.RangeWalk
set_option linter.unusedVariables false
set_option linter.unusedSimpArgs false
namespace Go.Proofs.Ytnnadpbfidfhoaa
open Go.RowKit Go.Maps Go.Shelf

theorem reads_new (w : World) (T : TypeId) (xs : List Value) (n size : Nat) (hl : xs.length = n * size) : Reads (w.alloc (.cells xs.toArray T)) size (some ⟨w.heap.size, 0, none⟩) n xs :=
  ⟨hl, fun _ => ⟨_, rfl, fun j u hu => by rw [add_zero_spot]; exact (Blk.new _ _ _).cell (by simpa using hu)⟩⟩
theorem reads_new2 (w : World) (o : Obj) (T : TypeId) (xs : List Value) (n size : Nat) (hl : xs.length = n * size) : Reads ((w.alloc o).alloc (.cells xs.toArray T)) size (some ⟨w.heap.size + 1, 0, none⟩) n xs := by
  have := reads_new (w.alloc o) T xs n size hl
  rwa [World.size_alloc] at this
/-- The open slots. -/
def opn (L : KL) : List Int := (L.filter fun q => !q.2.c).map (·.1)
theorem opn_sorted {L : KL} (h : Srt L) : (opn L).Pairwise (· < ·) := List.pairwise_map.2 (h.filter _)
/-- Those that have come. -/
def opnL (left : Lit → Bool) (L : KL) : List Int := (L.filter fun q => !left (.int .i64 q.1) && !q.2.c).map (·.1)
theorem opnL_all {L : KL} {left : Lit → Bool} (h : ∀ kl, left kl = false) : opnL left L = opn L := by
  unfold opnL opn
  congr 1
  refine List.filter_congr fun q _ => ?_
  rw [h]
  simp
theorem opnL_none {L : KL} {left : Lit → Bool} (h : ∀ q ∈ L, left (.int .i64 q.1) = true) : opnL left L = [] := by
  unfold opnL
  rw [List.map_eq_nil_iff, List.filter_eq_nil_iff]
  intro q hq
  rw [h q hq]
  simp
theorem key_one {L : KL} (h : Srt L) {x : Int} {e : Kn} (he : get x L = some e) : ∀ q ∈ L, q.1 = x → q.2 = e := fun q hq hx => by
  have := get_of_mem h (show (q.1, q.2) ∈ L from hq)
  rw [hx, he] at this
  exact (Option.some.inj this).symm
theorem sameKey_int (x y : Int) : (Lit.int .i64 x).sameKey (.int .i64 y) = decide (x = y) := by
  simp [Lit.sameKey]
theorem opnL_skip {L : KL} (h : Srt L) {left : Lit → Bool} {x : Int} {e : Kn} (he : get x L = some e) (hc : e.c = true) : opnL (fun z => left z && !z.sameKey (.int .i64 x)) L = opnL left L := by
  unfold opnL
  congr 1
  refine List.filter_congr fun q hq => ?_
  simp only [sameKey_int]
  by_cases hx : q.1 = x
  · rw [key_one h he q hq hx, hc]; simp
  · simp [hx]
theorem perm_add {L : KL} {P P' : Int × Kn → Bool} {x : Int} (hk : L.Pairwise fun p q => p.1 ≠ q.1) (hx : ∃ e, (x, e) ∈ L) (h0 : ∀ q ∈ L, q.1 = x → P q = false ∧ P' q = true) (h1 : ∀ q ∈ L, q.1 ≠ x → P' q = P q) :
    ((L.filter P').map (·.1)).Perm ((L.filter P).map (·.1) ++ [x]) := by
  induction L with
  | nil => obtain ⟨e, he⟩ := hx; simp at he
  | cons y r ih =>
    have hp := List.pairwise_cons.1 hk
    by_cases hy : y.1 = x
    · obtain ⟨hf, ht⟩ := h0 y (by simp) hy
      have hr : r.filter P' = r.filter P := List.filter_congr fun q hq => h1 q (by simp [hq]) (fun e => hp.1 q hq (by rw [hy, e]))
      rw [List.filter_cons_of_pos ht, List.filter_cons_of_neg (by rw [hf]; simp), hr, List.map_cons, hy]
      exact (List.perm_append_singleton _ _).symm
    · have hr : ∃ e, (x, e) ∈ r := by
        obtain ⟨e, he⟩ := hx
        rcases List.mem_cons.1 he with h | h
        · subst h; exact absurd rfl hy
        · exact ⟨e, h⟩
      have ih2 := ih hp.2 hr (fun q hq => h0 q (by simp [hq])) (fun q hq => h1 q (by simp [hq]))
      have hpy := h1 y (by simp) hy
      cases hP : P y with
      | true =>
        rw [List.filter_cons_of_pos (by rw [hpy, hP]), List.filter_cons_of_pos hP]
        exact ih2.cons _
      | false =>
        rw [List.filter_cons_of_neg (by rw [hpy, hP]; simp), List.filter_cons_of_neg (by rw [hP]; simp)]
        exact ih2
theorem opnL_add {L : KL} (h : Srt L) {left : Lit → Bool} {x : Int} {e : Kn} (he : get x L = some e) (hc : e.c = false) (hl : left (.int .i64 x) = true) :
    (opnL (fun z => left z && !z.sameKey (.int .i64 x)) L).Perm (opnL left L ++ [x]) := by
  refine perm_add (h.imp fun hh => by omega) ⟨e, get_mem he⟩ (fun q hq hx => ?_) (fun q hq hx => ?_)
  · simp only [sameKey_int]
    rw [key_one h he q hq hx, hx, hl, hc]
    simp
  · simp only [sameKey_int]
    simp [hx]

theorem info_int2 : (Try.prog.info? 3).map (fun i => (i.zero, i.size, i.bytes)) = some (some (.int .i64 0), 1, 8) := by kernel_rfl

set_option maxRecDepth 100000 in
set_option maxHeartbeats 2000000 in
theorem open_S (p m : Nat) (s : LSt) (w : World) (h : LS w p m s) :
    Calls Try.prog 15 #[.pointer (some ⟨p, 0, none⟩)] w fun e w' => ∃ v, e = .returned v ∧ IntRow w' w.heap.size v (opn s.L) ∧ Below w.heap.size w w' := by
  have hn := h.npos
  have hlen := h.good.len
  have hs := h.good.srt
  have HSR := Lib.hid hs
  obtain ⟨⟨u, hT, _, _⟩, _⟩ := h
  have c0 := hT.c0
  have c3 := hT.c3
  have HT := Lib.hid hT
  obtain ⟨i0, hi, hz0, hz1, hz2⟩ := info_parts info_int2
  have HI := Lib.hid hi
  have HZ0 := Lib.hid hz0
  have HZ1 := Lib.hid hz1
  have HZ2 := Lib.hid hz2
  clear hT hi hz0 hz1 hz2 hs
  go_enter Try.func15, Try.ntmps15
  go_wp2_with (first
    | (go_at_call 31; refine (lvalid p s.n _ c0 hn).mono ?_; rintro e w' ⟨rfl, rfl⟩)
    | (at_range; refine wpList_range_own _ rfl _ 63 rfl 3 77 (int_keyed Try.underlying3) Try.underlying63 _ m _ _ rfl HT.out.map ?_; intro w1 hr1 hg1 hs1))
  go_frame
  have hb1 : Below w.heap.size w w1 := ⟨hg1.os, hg1.tape, hg1.output, hg1.size, fun i hi => hg1.block i hi (fun e => by cases e)⟩
  have HR1 := Lib.hid hr1
  obtain ⟨rr, hrr⟩ : ∃ rr, rr = w.heap.size := ⟨_, rfl⟩
  rw [← hrr] at HR1 ⊢
  have hrr2 : w.heap.size ≤ rr := by omega
  clear hg1 hr1 hs1 hrr
  go_wp2_with fail
  go_loopw [3] (fun v wr => ∃ (left : Lit → Bool) (cnt : Nat) (xs : List Int), wr.ranges Try.prog 3 RV m rr _ (dat (encF knV s.L)) left cnt ∧ IntRow wr (rr + 1) v xs ∧ xs.Perm (opnL left s.L) ∧ Below w.heap.size w wr) (fun _ wr => wr.rangeLeft m rr)
  case atStart =>
    refine ⟨_, _, [], HR1.out, IntRow.nil _ _, ?_, hb1⟩
    rw [opnL_none]
    intro q hq
    rw [dat_has]
    rw [get_encF, get_of_mem HSR.out (show (q.1, q.2) ∈ s.L from hq)]
    rfl
  case round =>
    obtain ⟨left, cnt, xs, hrg, hrow, hperm, hB⟩ := hrel
    have hcnt := hrg.left_eq
    have HCNT := Lib.hid hcnt
    have HRG := Lib.hid hrg
    have HROW := Lib.hid hrow
    have HP := Lib.hid hperm
    have hxl : xs.length ≤ 4096 := by
      rw [hperm.length_eq]
      unfold opnL
      rw [List.length_map]
      exact Nat.le_trans (List.length_filter_le _ _) hlen
    have hsz := hB.size
    clear hcnt hrg hrow hperm
    go_wp2_with (first
      | (at_next; refine wpList_next_encF _ knV rfl _ rfl 3 Try.underlying3 m rr _ s.L left cnt rfl HRG.out ?_ ?_))
    · -- NO ENTRY IS LEFT
      intro h0 hl
      have HD : Hid (xs.Perm (opn s.L)) := by have := HP.out; rwa [opnL_all hl] at this
      clear h0 hl
      go_wp2_with (first
        | (go_at_call 36; refine (isort _ _ _ _ HROW.out (by omega)).mono ?_; rintro e w5 ⟨rfl, r5, f5⟩; have R5 := Lib.hid r5; have B5 := Lib.hid (Fr.upB hB f5 (fun i e => by have := (HROW.out.lt i e).1; omega)); clear r5 f5))
      go_returns
      refine ⟨_, rfl, ?_, B5.out⟩
      have := R5.out
      rw [show xs.mergeSort leB = opn s.L from sort_perm HD.out (opn_sorted HSR.out)] at this
      exact this.lower (by omega)
    · -- AN ENTRY
      rintro x ⟨kc, kv, kr, kd, kvo, ks⟩ w1 cnt1 hwx hlx hat hrg1 hlt hg1 hs1 hen
      have hf1 : Fr (S1 rr) wr w1 := Fr.of_grown hg1 (fun i e => by cases e; rfl)
      have R1 := Lib.hid (show IntRow w1 (rr + 1) _ xs from HROW.out.fr hf1 (fun i e => by have e : i = rr := e; omega))
      have B1 := Lib.hid (Fr.upB hB hf1 (fun i e => by have e : i = rr := e; omega))
      have HRG1 := Lib.hid hrg1
      have HAT := Lib.hid hat
      have HLX := Lib.hid hlx
      have HCL : Hid (cnt1 < cnt) := hlt
      simp only [knV] at hen
      clear hf1 hrg1 hat hlx hg1 hlt hs1
      cases kc with
      | true =>
        have HPP : Hid (xs.Perm (opnL (fun z => left z && !z.sameKey (.int .i64 x)) s.L)) := by
          rw [Hid, opnL_skip HSR.out HAT.out rfl]
          exact HP.out
        go_wp2_with fail
        go_roundw
        case rel => exact ⟨_, _, xs, HRG1.out.alloc _, World.ownsRow.alloc R1.out _, HPP.out, B1.out.alloc B1.out.size _⟩
        case measure => rw [(HRG1.out.alloc _).left_eq, HCNT.out]; exact HCL.out
      | false =>
        have HPP : Hid ((xs ++ [x]).Perm (opnL (fun z => left z && !z.sameKey (.int .i64 x)) s.L)) :=
          (List.Perm.append_right [x] HP.out).trans (opnL_add HSR.out HAT.out rfl HLX.out).symm
        go_wp2_with (first
          | (at_builtin; go_must (refine wpList_app rfl _ _ 39 rfl (rr + 1) 3 i0 (.int .i64 0) 1 8 Try.underlying39 HI.out HZ0.out HZ1.out HZ2.out rfl (by decide) _ _ _ rfl (World.ownsRow.alloc (World.ownsRow.alloc R1.out _) _) (some ⟨w1.heap.size + 1, 0, none⟩) 1 1 [.int .i64 x] rfl (by simp) (by omega) (reads_new2 _ _ _ [.int .i64 x] 1 1 rfl) (by intro u hu; simp at hu; subst hu; simp [Value.oneCell']) (by unfold maxLen; omega) (by omega) (by have := HRG1.out.lt; simp; omega) ?_)))
        intro v' w4 hown hgrow _
        have hne1 : ∀ k', some k' = _ → rr + 1 ≤ k' := fun k' hk' => (R1.out.lt k' hk'.symm).1
        have hr3 := (HRG1.out.alloc (.cells #[.bool false, .string kv, .int .i64 kr, .int .i64 kd, .string kvo, .int .u64 (ks : Int)] 77)).alloc (.cells #[.int .i64 x] 3)
        have hr4 := hr3.kept hgrow (fun e => by obtain ⟨es, c, hm⟩ := (MapIs.of HRG1.out.owns).block; exact row_ne_map R1.out hm m e.symm rfl) (fun e => by have := hne1 rr e; omega)
        have hB4 := ((B1.out.alloc B1.out.size (.cells #[.bool false, .string kv, .int .i64 kr, .int .i64 kd, .string kvo, .int .u64 (ks : Int)] 77)).alloc (by have := B1.out.size; simp; omega) (.cells #[.int .i64 x] 3)).grown hgrow (by have := B1.out.size; simp; omega) (fun k' ek => by have := hne1 k' ek.symm; omega)
        have hrow4 : IntRow w4 (rr + 1) v' (xs ++ [x]) := by
          unfold IntRow
          rw [List.length_append, List.map_append]
          exact hown
        go_wp2_with fail
        go_roundw
        case rel => exact ⟨_, _, xs ++ [x], hr4, hrow4, HPP.out, hB4⟩
        case measure => rw [hr4.left_eq, HCNT.out]; exact HCL.out

theorem lclone (b : Nat) (es : Array MapEntry) (clock : Nat) (w : World) (hb : w.heap[b]? = some (.map es clock)) :
    Calls Try.prog 44 #[.map (some b)] w fun e w' => e = .returned (.map (some w.heap.size)) ∧ w' = w.alloc (.map es clock) :=
  AnyW.maps_Clone Try.cloneM b es clock w hb
set_option maxHeartbeats 2000000 in
theorem lcopy_S (p m : Nat) (s : LSt) (w : World) (h : LS w p m s) :
    Calls Try.prog 25 #[.pointer (some ⟨p, 0, none⟩)] w fun e w' => ∃ p' m', e = .returned (.pointer (some ⟨p', 0, none⟩)) ∧ LS w' p' m' s ∧ w.heap.size ≤ p' ∧ w.heap.size ≤ m' ∧ Below w.heap.size w w' := by
  have hn := h.npos
  have HGD := Lib.hid h.good
  obtain ⟨⟨u, hT, hC, hu⟩, _⟩ := h
  have c0 := hT.c0
  have c1 := hT.c1
  have c2 := hT.c2
  have c3 := hT.c3
  obtain ⟨es, clock, hm⟩ := hT.map.block
  have HT := Lib.hid hT
  have HM := Lib.hid hm
  have HM2 := Lib.hid (show w.drew.heap[m]? = some (.map es clock) from hm)
  have HC := Lib.hid hC
  clear hT hm hC
  go_enter Try.func25, Try.ntmps25
  go_wp2_with (first
    | (go_at_call 31; refine (lvalid p s.n _ c0 hn).mono ?_; rintro e w' ⟨rfl, rfl⟩))
  have hbw := (Below.refl w.heap.size w).drew.alloc (Nat.le_refl _) (.map es clock)
  have HBW := Lib.hid hbw
  have d0 := bcell hbw c0
  have d1 := bcell hbw c1
  have d2 := bcell hbw c2
  have d3 := bcell hbw c3
  clear hbw
  go_region_held3 (fun W => W.cell? ⟨p, 0, none⟩ = some (.int .i64 (s.n : Int)) ∧ W.cell? ⟨p, 1, none⟩ = some (.int .i64 s.base) ∧ W.cell? ⟨p, 2, none⟩ = some (.int .i64 u) ∧ W.cell? ⟨p, 3, none⟩ = some (.map (some m)))
    (first | exact ⟨by assumption, by assumption, by assumption, by assumption⟩ | go_keep)
    (first
      | (go_at_call 44; refine (lclone m es clock _ HM2.out).mono ?_; rintro e w' ⟨rfl, rfl⟩))
  go_wp2_with fail
  go_returns
  have hbk := Blk.new (w.drew.alloc (.map es clock)) 65 #[.int .i64 (s.n : Int), .int .i64 s.base, .int .i64 u, .map (some w.heap.size)]
  rw [World.size_alloc] at hbk
  have hm3 : ((w.drew.alloc (.map es clock)).alloc (.cells #[.int .i64 (s.n : Int), .int .i64 s.base, .int .i64 u, .map (some w.heap.size)] 65)).heap[w.heap.size]? = some (.map es clock) :=
    (Below.heap_alloc (w.drew.alloc (.map es clock)) _ w.heap.size (by simp)).trans (World.alloc_heap_new w.drew _)
  refine ⟨w.heap.size + 1, w.heap.size, rfl, ⟨⟨u, ⟨hbk, HT.out.map.clone HM.out hm3⟩, HC.out, hu⟩, HGD.out⟩, by omega, Nat.le_refl _, HBW.out.alloc (by simp) _⟩
end Go.Proofs.Ytnnadpbfidfhoaa
