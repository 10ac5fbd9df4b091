/- Package accept: Copy, Forget. -/
import Derived.Test.YtnbiihnfggcakaaAccC
set_option linter.unusedVariables false
set_option linter.unusedSimpArgs false
namespace Go.Proofs.Ytnbiihnfggcakaa
open Go.RowKit Go.Maps Go.Shelf

theorem mclone (b : Nat) (es : Array MapEntry) (clock : Nat) (w : World) (hb : w.heap[b]? = some (.map es clock)) :
    Calls Try.prog 49 #[.map (some b)] w fun e w' => e = .returned (.map (some w.heap.size)) ∧ w' = w.alloc (.map es clock) :=
  AnyW.maps_Clone Try.cloneM b es clock w hb

def CopyPost (n r d base : Int) (L : EL) (w : World) (e : Ending) (w' : World) : Prop :=
  ∃ p' m', e = .returned (.pointer (some ⟨p', 0, none⟩)) ∧ AccAt w' p' m' n r d base L ∧ w.heap.size ≤ p' ∧ w.heap.size ≤ m' ∧ Below w.heap.size w w'

set_option maxHeartbeats 400000 in
theorem copy_any (p m : Nat) (n r d base : Int) (L : EL) (w : World) (h : AccAt w p m n r d base L) (hn : 0 < n) :
    Calls Try.prog 28 #[.pointer (some ⟨p, 0, none⟩)] w (CopyPost n r d base L w) := by
  have c0 := h.c0
  have c1 := h.c1
  have c2 := h.c2
  have c3 := h.c3
  have c4 := h.c4
  obtain ⟨es, clock, hm⟩ := h.map.block
  have hp := h.lt
  have hcs : ∃ cs, cs = (Obj.cells #[.int .i64 n, .int .i64 r, .int .i64 d, .map (some m), .int .i64 base] 56) := ⟨_, rfl⟩
  obtain ⟨cs, hcs⟩ := hcs
  have h2 := h.alloc cs
  have d3 := h2.c3
  have hm2 : (w.alloc cs).heap[m]? = some (.map es clock) := (Below.heap_alloc w cs m hp.2).trans hm
  subst hcs
  have b2 := Blk.new w 56 #[.int .i64 n, .int .i64 r, .int .i64 d, .map (some m), .int .i64 base]
  have b3 := b2.alloc (.map es clock)
  have f3 := b3.frozen 3
  have HT := Lib.hid h
  have HM := Lib.hid hm
  have HM2 := Lib.hid hm2
  clear h hm hm2 h2 b2 b3
  go_enter Try.func28, Try.ntmps28
  go_wp2_with (first
    | (go_at_call 38; refine (avalid p n _ c0 hn).mono ?_; rintro e w' ⟨rfl, rfl⟩)
    | (go_at_call 49; refine (mclone m es clock _ HM2.out).mono ?_; rintro e w' ⟨rfl, rfl⟩))
  go_returns
  refine ⟨w.heap.size, w.heap.size + 1, rfl, ⟨(Blk.new w _ _).alloc _, HT.out.map.clone HM.out ?_⟩, Nat.le_refl _, by omega, ((Below.refl _ _).alloc (Nat.le_refl _) _).alloc (by simp) _⟩
  have := (MapKept.heap_alloc (w.alloc (.cells #[.int .i64 n, .int .i64 r, .int .i64 d, .map (some (w.heap.size + 1)), .int .i64 base] 56)) (.map es clock)).1
  rwa [World.size_alloc] at this

theorem old_any (q : Nat) (x k : Int) (w : World) (h : w.cell? ⟨q, 0, none⟩ = some (.int .i64 k)) :
    Calls Try.prog 43 #[.int .i64 x, .pointer (some ⟨q, 0, none⟩)] w fun e w' => e = .returned (.bool (decide (x < k))) ∧ w = w' := by
  go_enter Try.func43, Try.ntmps43
  go_wp2
  go_ret
  exact ⟨rfl, rfl⟩

/-- What is there when 'left' are still to come. -/
structure FA (k : Int) (L M : EL) (left : Lit → Bool) : Prop where
  srt : Srt M
  mem : ∀ q, q ∈ M ↔ q ∈ L ∧ (left (.int .i64 q.1) = true ∨ ¬ q.1 < k)
namespace FA
variable {k x : Int} {L M : EL} {left : Lit → Bool}
theorem start (k : Int) {L : EL} (h : Srt L) : FA k L L (Maps.has (dat (encF entV L))) :=
  ⟨h, fun q => ⟨fun hq => ⟨hq, .inl (by rw [dat_has, get_encF, get_of_mem h (v := q.2) hq]; rfl)⟩, fun hq => hq.1⟩⟩
theorem keep (h : FA k L M left) (hx : ¬ x < k) : FA k L M (fun z => left z && !z.sameKey (.int .i64 x)) := by
  refine ⟨h.srt, fun q => ?_⟩
  rw [h.mem q]
  simp only [same_eq]
  refine and_congr_right fun _ => ?_
  by_cases e : q.1 = x
  · subst e; simp [hx]
  · have : (q.1 == x) = false := by simpa using e
    simp [this]
theorem gone (h : FA k L M left) (hx : x < k) : FA k L (del x M) (fun z => left z && !z.sameKey (.int .i64 x)) := by
  refine ⟨srt_del h.srt, fun q => ?_⟩
  rw [mem_del, h.mem q]
  simp only [same_eq]
  by_cases e : q.1 = x
  · subst e; simp [hx]
  · have : (q.1 == x) = false := by simpa using e
    simp [this, e]
theorem done (h : FA k L M left) (hs : Srt L) (hl : ∀ z, left z = false) : M = L.filter (fun p => !decide (p.1 < k)) := by
  refine srt_ext h.srt (hs.filter _) fun q => ?_
  rw [h.mem q, List.mem_filter, hl]
  simp
end FA

def forL (k : Int) (L : EL) : EL := L.filter fun p => !decide (p.1 < k)
def ForgPost (p m : Nat) (n r d base k : Int) (L : EL) (w : World) (e : Ending) (w' : World) : Prop :=
  e = .returned (.int .i64 0) ∧ AccAt w' p m n r d (max base k) (forL k L) ∧ Fr (S2 p m) w w'

set_option maxRecDepth 100000 in
set_option maxHeartbeats 1000000 in
theorem forget_yes (p m : Nat) (n r d base k : Int) (L : EL) (w : World) (h : AccAt w p m n r d base L) (hn : 0 < n) (hk : 0 ≤ k ∧ k ≤ 4096) :
    Calls Try.prog 20 #[.pointer (some ⟨p, 0, none⟩), .int .i64 k] w (ForgPost p m n r d base k L w) := by
  have h1 := h.alloc (.cells #[.int .i64 k] 3)
  have hb := box_below w (.cells #[.int .i64 k] 3)
  have b1 := Blk.new w 3 #[.int .i64 k]
  have c0 := h1.c0
  have c3 := h1.c3
  have c4 := h1.c4
  have hlt := h.lt
  have e0 := b1.cell (i := 0) (v := .int .i64 k) rfl
  have hk0' : decide (k < 0) = false := by simp; omega
  have hk1' : decide (k > 4096) = false := by simp; omega
  have hsrt : Srt L := srt_encF (h.map.srt (int_keyed Try.underlying3))
  have HT := Lib.hid h1
  have HB := Lib.hid hb
  have HS := Lib.hid hsrt
  have hsz : w.heap.size + 1 = (w.alloc (.cells #[.int .i64 k] 3)).heap.size := by simp
  clear h h1 b1 hb hk hsrt
  go_enter Try.func20, Try.ntmps20
  go_wp2_with (first
    | (go_at_call 38; refine (avalid p n _ c0 hn).mono ?_; rintro e w' ⟨rfl, rfl⟩)
    | (at_range; refine wpList_range_own _ rfl _ 54 rfl 3 43 (int_keyed Try.underlying3) Try.underlying54 RV m _ (dat (encF entV L)) rfl HT.out.map ?_; rintro w2 hr2 hg2 hs2))
  go_frame
  generalize (w.alloc (.cells #[.int .i64 k] 3)) = W1 at *
  obtain ⟨rr, hrr⟩ : ∃ rr, rr = W1.heap.size := ⟨_, rfl⟩
  rw [← hrr] at hr2 ⊢
  have hf2 : Fr (S1 m) W1 w2 := Fr.of_grown hg2 (fun i e => by cases e)
  have hw2 : w2.heap.size = rr + 1 := by omega
  have HR2 := Lib.hid hr2
  have HF2 := Lib.hid hf2
  have HBX := Lib.hid (show W1.cell? ⟨w.heap.size, 0, none⟩ = some (.int .i64 k) from e0)
  have hmlt : m < w.heap.size := hlt.2
  have hplt : p < w.heap.size := hlt.1
  have hrw : w.heap.size < rr := by omega
  have hW1 : rr ≤ W1.heap.size := by omega
  have hW2 : W1.heap.size ≤ rr := by omega
  clear hr2 hf2 hg2 hs2 hrr hsz hlt
  go_loopw [6] (fun _ wr => ∃ (M : EL) (left : Lit → Bool) (cnt : Nat), wr.ranges Try.prog 3 RV m rr _ (dat (encF entV M)) left cnt ∧ FA k L M left ∧ Fr (fun i => i = m ∨ i = rr) W1 wr) (fun _ wr => wr.rangeLeft m rr)
  case atStart => exact ⟨L, _, _, HR2.out, FA.start k HS.out, HF2.out.mono (fun i e => .inl e)⟩
  case round =>
    obtain ⟨M, left, cnt, hrg, hfa, hF⟩ := hrel
    have hcnt := hrg.left_eq
    have HCNT := Lib.hid hcnt
    have HRG := Lib.hid hrg
    have HFA := Lib.hid hfa
    have hne : p ≠ m := HT.out.ne
    have hrlt := hrg.lt
    clear hcnt hrg hfa
    have x0 := hF.cell (p := ⟨p, 3, none⟩) (by rintro (e | e) <;> simp at e <;> omega) c3
    have x1 := hF.cell (p := ⟨w.heap.size, 0, none⟩) (by rintro (e | e) <;> simp at e <;> omega) e0
    have x4 := hF.cell (p := ⟨p, 4, none⟩) (by rintro (e | e) <;> simp at e <;> omega) c4
    go_wp2_with (first
      | (at_next; refine wpList_next_encF _ entV rfl _ rfl 3 Try.underlying3 m rr _ M left cnt rfl HRG.out ?_ ?_))
    · -- NO ENTRY IS LEFT
      intro h0 hl
      have hd := HFA.out.done HS.out hl
      have HD := Lib.hid hd
      clear h0 hl hd
      have hb4 : Blk wr p 56 #[.int .i64 n, .int .i64 r, .int .i64 d, .map (some m), .int .i64 base] := HT.out.blk.fr hF (by rintro (e | e) <;> omega)
      have hm4 : MapIs Try.prog 3 wr m (encF entV M) := MapIs.of HRG.out.owns
      have f4 := hb4.frozen 4
      have HB4 := Lib.hid hb4
      have HM4 := Lib.hid hm4
      have HF4 := Lib.hid hF
      clear hb4 hm4 hF
      go_wp2_with fail
      go_still_tail 9, (by kernel_rfl)
      go_wp2_with fail
      go_returns
      rw [HD.out] at HM4
      have hset : Fr (S2 p m) wr (wr.drew.setCell ⟨p, 4, none⟩ (.int .i64 (max base k))) := ((Fr.refl (S2 p m) wr).drew).setCell (p := ⟨p, 4, none⟩) (.inl (show S2 p m p from .inl rfl)) _
      refine ⟨rfl, ⟨(HB4.out.set 4 _), HM4.out.of_block (Below.heap_setCell _ _ _ m (fun e => hne e.symm))⟩, ?_⟩
      have h01 : Fr (S2 p m) w W1 := Fr.of_below HB.out
      exact h01.trans ((HF4.out.mono' (S' := S2 p m) (fun i hi e => by rcases e with e | e; exact .inr e; have e : i = rr := e; omega)).trans hset)
    · -- ONE MORE
      rintro x ea eb ec w3 cnt' hwx hlx hget hrg3 hlt3 hg3 hs3 hen
      have hsv := HRG.out.ne
      have y0 : w3.cell? ⟨p, 3, none⟩ = some (.map (some m)) := (World.cell?_of_block (hg3.block p (by omega) (by simp; omega))).trans x0
      have y1 : w3.cell? ⟨w.heap.size, 0, none⟩ = some (.int .i64 k) := (World.cell?_of_block (hg3.block w.heap.size (by omega) (by simp; omega))).trans x1
      have hF3 : Fr (fun i => i = m ∨ i = rr) W1 w3 := hF.trans (Fr.of_grown hg3 (fun i e => by cases e; exact .inr rfl))
      have HRG3 := Lib.hid hrg3
      have HF3 := Lib.hid hF3
      clear x0 x1 x4 hrg3 hg3 hs3 hF3 hF hlx hget
      by_cases hx : x < k
      · have HN := Lib.hid (HFA.out.gone hx)
        go_wp2_with (first
          | (go_at_call 43; refine (old_any _ x k _ y1).mono ?_; rintro e w' ⟨rfl, rfl⟩)
          | (at_delete; refine wpList_delete_ranges _ rfl _ _ 54 3 rfl 43 (int_keyed Try.underlying3) Try.underlying54 RV m rr _ _ _ _ rfl HRG3.out (.int .i64 x) (.int .i64 x) rfl (keyOf_int_mk Try.underlying3 hwx) ?_; rintro w4 cnt4 hrg4 hle4 hturn))
        rw [dat_del, del_encF, Maps.strike_twice] at hrg4
        go_wp2_with fail
        go_frame
        go_roundw
        case rel => exact ⟨del x M, _, cnt4, hrg4, HN.out, HF3.out.trans (Fr.of_grown hturn.grown (fun i e => by cases e; exact .inl rfl))⟩
        case measure => rw [hrg4.left_eq, HCNT.out]; omega
      · have hx' : decide (x < k) = false := by simpa using hx
        have HN := Lib.hid (HFA.out.keep hx)
        clear hx
        go_wp2_with (first
          | (go_at_call 43; refine (old_any _ x k _ y1).mono ?_; rintro e w' ⟨rfl, rfl⟩))
        go_roundw
        case rel => exact ⟨M, _, cnt', HRG3.out, HN.out, HF3.out⟩
        case measure => rw [HRG3.out.left_eq, HCNT.out]; exact hlt3
end Go.Proofs.Ytnbiihnfggcakaa
