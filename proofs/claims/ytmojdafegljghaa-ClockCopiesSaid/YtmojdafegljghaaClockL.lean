/- The clock's contracts for the laws: the table with its bounds; same; works. -/
import Derived.Test.YtmojdafegljghaaClockC
import Derived.Test.YtmojdafegljghaaRClockB
import Derived.Deep.DeepMust
set_option linter.unusedVariables false
set_option linter.unusedSimpArgs false
namespace Go.Proofs.Ytmojdafegljghaa
open Go.RowKit Go.Maps Go.Shelf

/-- The table, its bounds. -/
structure TS (w : World) (p m : Nat) (now : Int) (L : List (Int × Int)) : Prop where
  tab : TabAt w p m now L
  good : Good now L

def in64 (x : Int) : Prop := -9223372036854775808 ≤ x ∧ x ≤ 9223372036854775807
def okT (t : Int) : Bool := decide (1 ≤ t ∧ t ≤ 1000000)
def setS (now id t : Int) (L : List (Int × Int)) : List (Int × Int) := if okT t then put id (now + t) L else L
def setE (t : Int) : Int := if okT t then 0 else 2

theorem len_put_le (k : Int) (v : Int) (L : List (Int × Int)) : (put k v L).length ≤ L.length + 1 := by
  unfold put; rw [length_insS]; have := List.length_filter_le (fun p : Int × Int => p.1 != k) L; unfold del; omega
theorem len_del_le (k : Int) (L : List (Int × Int)) : (del k L).length ≤ L.length := List.length_filter_le _ _
theorem len_restT_le (now : Int) (L : List (Int × Int)) : (restT now L).length ≤ L.length := List.length_filter_le _ _
theorem len_setS_le (now id t : Int) (L : List (Int × Int)) : (setS now id t L).length ≤ L.length + 1 := by
  unfold setS; split
  · exact len_put_le _ _ _
  · omega

namespace Good
variable {now id t : Int} {L : List (Int × Int)}
theorem new : Good 0 [] := ⟨by omega, by omega, by simp, List.Pairwise.nil, fun p hp => by simp at hp, fun p hp => by simp at hp⟩
theorem set (h : Good now L) (hid : in64 id) (hl : L.length < 1000) : Good now (setS now id t L) := by
  unfold setS
  split
  · rename_i ht
    have ht' : 1 ≤ t ∧ t ≤ 1000000 := by simpa [okT] using ht
    refine ⟨h.lo, h.hi, by have := len_put_le id (now + t) L; omega, srt_put h.srt, fun p hp => ?_, fun p hp => ?_⟩
    · rcases mem_put.1 hp with rfl | ⟨hp, _⟩
      · exact hid
      · exact h.ids p hp
    · rcases mem_put.1 hp with rfl | ⟨hp, _⟩
      · simp only; omega
      · exact h.ends p hp
  · exact h
theorem del (h : Good now L) (id : Int) : Good now (del id L) :=
  ⟨h.lo, h.hi, by have := len_del_le id L; have := h.len; omega, srt_del h.srt, fun p hp => h.ids p (mem_del.1 hp).1, fun p hp => h.ends p (mem_del.1 hp).1⟩
theorem tick (h : Good now L) (hb : now < 1000000) : Good (now + 1) (restT now L) :=
  ⟨by have := h.lo; omega, by omega, by have := len_restT_le now L; have := h.len; omega, List.Pairwise.filter _ h.srt, fun p hp => h.ids p (List.mem_filter.1 hp).1, fun p hp => by
    obtain ⟨h1, h2⟩ := List.mem_filter.1 hp
    have := h.ends p h1
    simp at h2
    omega⟩
end Good

theorem TS.fr {S : Nat → Prop} {w w' : World} {p m : Nat} {now : Int} {L : List (Int × Int)} (h : TS w p m now L) (k : Fr S w w') (hp : ¬ S p) (hm : ¬ S m) : TS w' p m now L := ⟨h.tab.fr k hp hm, h.good⟩
theorem TS.below {w w' : World} {p m : Nat} {now : Int} {L : List (Int × Int)} (h : TS w p m now L) (k : Below w.heap.size w w') : TS w' p m now L := h.fr (Fr.of_below k : Fr S0 w w') (fun h => h) (fun h => h)
theorem TS.lt {w : World} {p m : Nat} {now : Int} {L : List (Int × Int)} (h : TS w p m now L) : p < w.heap.size ∧ m < w.heap.size := ⟨h.tab.blk.lt, h.tab.map.lt⟩

section
variable (p m : Nat) (id t now : Int) (L : List (Int × Int)) (w : World)
theorem new_S : Calls Try.prog 11 #[] w fun e w' => ∃ p m, e = .returned (.pointer (some ⟨p, 0, none⟩)) ∧ TS w' p m 0 [] ∧ w.heap.size ≤ p ∧ w.heap.size ≤ m ∧ Below w.heap.size w w' :=
  (new_any w).mono fun _ _ ⟨p, m, h1, h2, h3, h4, h5⟩ => ⟨p, m, h1, ⟨h2, Good.new⟩, h3, h4, h5⟩
def SetPost (p m : Nat) (id t now : Int) (L : List (Int × Int)) (w : World) (e : Ending) (w' : World) : Prop :=
  e = .returned (.int .i64 (setE t)) ∧ TS w' p m now (setS now id t L) ∧ Fr (S1 m) w w'
theorem set_S (h : TS w p m now L) (hid : in64 id) (hl : L.length < 1000) :
    Calls Try.prog 12 #[.pointer (some ⟨p, 0, none⟩), .int .i64 id, .int .i64 t] w (SetPost p m id t now L w) := by
  by_cases ht : 1 ≤ t ∧ t ≤ 1000000
  · have ho : okT t = true := by simpa [okT] using ht
    refine (set_yes p m id t now L w h.tab h.good hid ht.1 ht.2).mono fun e w' hh => ?_
    obtain ⟨h1, h2, h3⟩ := hh
    refine ⟨by rw [h1]; simp [setE, ho], ⟨?_, h.good.set hid hl⟩, h3⟩
    simp only [setS, ho, if_true]
    exact h2
  · have ho : okT t = false := by simpa [okT] using ht
    refine (set_bad p m id t now L w h.tab (by omega)).mono fun e w' hh => ?_
    obtain ⟨h1, rfl⟩ := hh
    refine ⟨by rw [h1]; simp [setE, ho], ?_, Fr.refl _ _⟩
    simpa [setS, ho] using h
def StopPost (p m : Nat) (id now : Int) (L : List (Int × Int)) (w : World) (e : Ending) (w' : World) : Prop :=
  e = .returned (.bool (get id L).isSome) ∧ TS w' p m now (del id L) ∧ Fr (S1 m) w w'
theorem stop_S (h : TS w p m now L) (hid : in64 id) :
    Calls Try.prog 17 #[.pointer (some ⟨p, 0, none⟩), .int .i64 id] w (StopPost p m id now L w) :=
  (stop_any p m id now L w h.tab hid).mono fun _ _ ⟨h1, h2, h3⟩ => ⟨h1, ⟨h2, h.good.del id⟩, h3⟩
def TickPost (p m : Nat) (now : Int) (L : List (Int × Int)) (w : World) (e : Ending) (w' : World) : Prop :=
  ∃ v, e = .returned v ∧ IntRow w' w.heap.size v (outT now L) ∧ TS w' p m (now + 1) (restT now L) ∧ Fr (S2 p m) w w'
theorem tick_S (h : TS w p m now L) (hb : now < 1000000) :
    Calls Try.prog 13 #[.pointer (some ⟨p, 0, none⟩)] w (TickPost p m now L w) :=
  (tick_any p m now L w h.tab h.good hb).mono fun _ _ ⟨v, h1, h2, h3, h4⟩ => ⟨v, h1, h2, ⟨h3, h.good.tick hb⟩, h4⟩
theorem left_S (h : TS w p m now L) (hid : in64 id) :
    Calls Try.prog 14 #[.pointer (some ⟨p, 0, none⟩), .int .i64 id] w fun e w' => e = .returned (.tuple #[.int .i64 (leftV id now L), .bool (get id L).isSome]) ∧ w = w' :=
  left_any p m id now L w h.tab h.good hid
theorem ids_S (h : TS w p m now L) :
    Calls Try.prog 19 #[.pointer (some ⟨p, 0, none⟩)] w fun e w' => ∃ v, e = .returned v ∧ IntRow w' w.heap.size v (keys L) ∧ Below w.heap.size w w' :=
  ids_any p m now L w h.tab h.good.len
theorem copy_S (h : TS w p m now L) :
    Calls Try.prog 25 #[.pointer (some ⟨p, 0, none⟩)] w fun e w' => ∃ p' m', e = .returned (.pointer (some ⟨p', 0, none⟩)) ∧ TS w' p' m' now L ∧ w.heap.size ≤ p' ∧ w.heap.size ≤ m' ∧ Below w.heap.size w w' :=
  (copy_any p m now L w h.tab).mono fun _ _ ⟨p', m', h1, h2, h3, h4, h5⟩ => ⟨p', m', h1, ⟨h2, h.good⟩, h3, h4, h5⟩
end

/-- A literal of numbers. -/
theorem lit_row (w : World) (xs : List Int) (hl : xs.length ≤ maxLen) : IntRow (w.alloc (.cells (xs.map (Value.int .i64)).toArray 3)) w.heap.size (.slice (some ⟨w.heap.size, 0, none⟩) xs.length xs.length) xs :=
  ⟨by simp, .inr ⟨w.heap.size, xs.length, (xs.map (Value.int .i64)).toArray, rfl, Nat.le_refl _, Blk.new _ _ _, Nat.le_refl _, hl, by simp, by rw [List.take_of_length_le (by simp)]⟩⟩

theorem eq_of_upto {xs ys : List Int} (hl : xs.length = ys.length) (h : ∀ j, j < xs.length → xs[j]? = ys[j]?) : xs = ys := by
  apply List.ext_getElem? 
  intro j
  by_cases hj : j < xs.length
  · exact h j hj
  · rw [List.getElem?_eq_none (by omega), List.getElem?_eq_none (by omega)]

theorem below_drewN {B : Nat} {a w : World} (h : Below B a w) (n : Nat) : Below B a (w.drewN n) := ⟨h.os, h.tape, h.output, h.size, h.block⟩

set_option maxHeartbeats 1000000 in
theorem same_any (v1 v2 : Value) (lo1 lo2 : Nat) (xs ys : List Int) (w : World) (h1 : IntRow w lo1 v1 xs) (h2 : IntRow w lo2 v2 ys) (hl : xs.length ≤ 1000000000) :
    Calls Try.prog 20 #[v1, v2] w fun e w' => e = .returned (.bool (decide (xs = ys))) ∧ Below w.heap.size w w' := by
  obtain ⟨A1, k1, rfl, hk1, hc1⟩ := h1.view
  obtain ⟨A2, k2, rfl, hk2, hc2⟩ := h2.view
  have HC1 := Lib.hid hc1
  have HC2 := Lib.hid hc2
  clear h1 h2 hc1 hc2
  go_enter Try.func20, Try.ntmps20
  by_cases he : xs.length = ys.length
  · have he' : ((xs.length : Int) == (ys.length : Int)) = true := by simp [he]
    have HE := Lib.hid he
    have hl2 : ys.length ≤ 1000000000 := by omega
    clear he
    go_wp2_with fail
    go_loopw [5] (fun c wr => ∃ i : Nat, i ≤ xs.length ∧ c = .int .i64 i ∧ (∀ j, j < i → xs[j]? = ys[j]?) ∧ Below w.heap.size w wr) (fun c _ => xs.length - (intOf c).toNat)
    case atStart => exact ⟨0, by omega, rfl, fun j hj => by omega, Below.refl _ _⟩
    case round =>
      obtain ⟨i, hi, rfl, hup, hB⟩ := hrel
      have HUP := Lib.hid hup
      clear hup
      by_cases hlt : i < xs.length
      · obtain ⟨g1, rfl, _, _, hg1⟩ := HC1.out (by omega)
        obtain ⟨g2, rfl, _, _, hg2⟩ := HC2.out (by have := HE.out; omega)
        obtain ⟨x, hx⟩ : ∃ x, xs[i]? = some x := ⟨_, List.getElem?_eq_getElem hlt⟩
        have hlt2 : i < ys.length := by have := HE.out; omega
        obtain ⟨y, hy⟩ : ∃ y, ys[i]? = some y := ⟨_, List.getElem?_eq_getElem hlt2⟩
        have d1 := bcell hB (hg1 i x hx)
        have d2 := bcell hB (hg2 i y hy)
        have HX := Lib.hid hx
        have HY := Lib.hid hy
        clear hx hy hg1 hg2
        by_cases hxy : x = y
        · have hxy' : ((x : Int) == y) = true := by simpa using hxy
          have HN : Hid (∀ j, j < i + 1 → xs[j]? = ys[j]?) := by
            intro j hj
            by_cases e : j = i
            · subst e; rw [HX.out, HY.out, hxy]
            · exact HUP.out j (by omega)
          clear hxy
          go_wp2_with fail
          go_quiet (fail)
          go_wp2
          go_roundw
          case rel => exact ⟨i + 1, by omega, by go_num, HN.out, below_drewN hB _⟩
          case measure => simp [intOf]; omega
        · have hxy' : ((x : Int) == y) = false := by simpa using hxy
          have HN : Hid (decide (xs = ys) = false) := by
            apply decide_eq_false
            intro e
            have h1 := HX.out
            rw [e, HY.out] at h1
            exact hxy (Option.some.inj h1).symm
          clear hxy
          go_wp2_with fail
          go_quiet (fail)
          go_wp2
          go_ret
          exact ⟨by rw [HN.out]; rfl, below_drewN hB _⟩
      · have e : i = xs.length := by omega
        subst e
        have HN : Hid (decide (xs = ys) = true) := decide_eq_true (eq_of_upto HE.out HUP.out)
        go_wp2
        go_ret
        exact ⟨by rw [HN.out]; rfl, hB⟩
  · have he' : ((xs.length : Int) == (ys.length : Int)) = false := by simp; omega
    have HN : Hid (decide (xs = ys) = false) := decide_eq_false (fun e => he (by rw [e]))
    clear he
    go_wp2
    go_ret
    exact ⟨by rw [HN.out]; rfl, Below.refl _ _⟩

set_option maxHeartbeats 2000000 in
theorem works_any (w : World) : Calls Try.prog 10 #[] w fun e w' => e = .returned (.bool true) ∧ Below w.heap.size w w' := by
  have s1 : setS 0 7 2 [] = [(7, 2)] := by decide
  have s2 : setS 0 (-1) 1 [(7, 2)] = [(-1, 1), (7, 2)] := by decide
  have s3 : setS 0 5 2 [(-1, 1), (7, 2)] = [(-1, 1), (5, 2), (7, 2)] := by decide
  have s4 : restT 0 [(-1, 1), (5, 2), (7, 2)] = [(5, 2), (7, 2)] := by decide
  have s5 : setS 1 5 3 [(5, 2), (7, 2)] = [(5, 4), (7, 2)] := by decide
  have s6 : restT 1 [(5, 4), (7, 2)] = [(5, 4)] := by decide
  have o4 : outT 0 [(-1, 1), (5, 2), (7, 2)] = [-1] := by decide
  have o6 : outT 1 [(5, 4), (7, 2)] = [7] := by decide
  have l7 : leftV 7 1 [(5, 2), (7, 2)] = 1 := by decide
  have k3 : keys [((-1 : Int), (1 : Int)), (5, 2), (7, 2)] = [-1, 5, 7] := by decide
  have g7 : (get 7 [((5 : Int), (2 : Int)), (7, 2)]).isSome = true := by decide
  have HS1 := Lib.hid s1
  have HS2 := Lib.hid s2
  have HS3 := Lib.hid s3
  have HS4 := Lib.hid s4
  have HS5 := Lib.hid s5
  have HS6 := Lib.hid s6
  have HO4 := Lib.hid o4
  have HO6 := Lib.hid o6
  have HL7 := Lib.hid l7
  have HK3 := Lib.hid k3
  have HG7 := Lib.hid g7
  clear s1 s2 s3 s4 s5 s6 o4 o6 l7 k3 g7
  go_enter Try.func10, Try.ntmps10
  go_wp2_with (go_at_call 11; refine (new_S _).mono ?_; rintro e w1 ⟨p, m, rfl, t1, hp, hm, b1⟩)
  refine (set_S p m 7 2 0 [] _ t1 (by unfold in64; omega) (by simp)).mono ?_
  rintro e w2 ⟨rfl, t2, f2⟩
  rw [HS1.out] at t2
  go_wp2_with fail
  refine (set_S p m (-1) 1 0 _ _ t2 (by unfold in64; omega) (by simp)).mono ?_
  rintro e w3 ⟨rfl, t3, f3⟩
  rw [HS2.out] at t3
  go_wp2_with fail
  refine (set_S p m 5 2 0 _ _ t3 (by unfold in64; omega) (by simp)).mono ?_
  rintro e w4 ⟨rfl, t4, f4⟩
  rw [HS3.out] at t4
  go_wp2_with fail
  refine (ids_S p m 0 _ _ t4).mono ?_
  rintro e w5 ⟨v5, rfl, r5, b5⟩
  rw [HK3.out] at r5
  have t5 := t4.below b5
  go_wp2_with fail
  refine (tick_S p m 0 _ _ t5 (by omega)).mono ?_
  rintro e w6 ⟨v6, rfl, r6, t6, f6⟩
  rw [HO4.out] at r6
  rw [HS4.out] at t6
  go_wp2_with fail
  refine (left_S p m 7 _ _ _ t6 (by unfold in64; omega)).mono ?_
  rintro e w7 ⟨rfl, rfl⟩
  go_wp2_with fail
  refine (set_S p m 5 3 _ _ _ t6 (by unfold in64; omega) (by simp)).mono ?_
  rintro e w8 ⟨rfl, t8, f8⟩
  rw [show ((0 : Int) + 1) = 1 from rfl, HS5.out] at t8
  go_wp2_with fail
  have hp4 := t4.lt
  have hp5 := t5.lt
  have hS4 : ∀ i, S2 p m i → i < w4.heap.size := fun i e => by rcases e with e | e <;> omega
  have hS5 : ∀ i, S2 p m i → i < w5.heap.size := fun i e => by rcases e with e | e <;> omega
  have k14 : Fr (S2 p m) w1 w4 := ((f2.mono fun i e => .inr e).trans (f3.mono fun i e => .inr e)).trans (f4.mono fun i e => .inr e)
  have k45 : Fr (S2 p m) w4 w5 := Fr.of_below b5
  have k8 : Fr (S2 p m) w6 w8 := f8.mono fun i e => .inr e
  have k58 : Fr (S2 p m) w5 w8 := f6.trans k8
  have kA := k58.alloc (.cells #[Value.int IntKind.i64 (-1), Value.int IntKind.i64 5, Value.int IntKind.i64 7] 3)
  have r5' := r5.fr kA hS4
  refine (same_any _ _ _ _ [-1, 5, 7] [-1, 5, 7] _ r5' (lit_row w8 [-1, 5, 7] (by decide)) (by simp)).mono ?_
  rintro e w9 ⟨rfl, b9⟩
  have k89 : Fr (S2 p m) w8 w9 := ((Fr.refl _ w8).alloc _).trans (Fr.of_below b9)
  go_wp2_with fail
  have k69 : Fr (S2 p m) w6 w9 := k8.trans k89
  have r6' := r6.fr (k69.alloc (.cells #[Value.int IntKind.i64 (-1)] 3)) hS5
  refine (same_any _ _ _ _ [-1] [-1] _ r6' (lit_row w9 [-1] (by decide)) (by simp)).mono ?_
  rintro e w10 ⟨rfl, b10⟩
  have k910 : Fr (S2 p m) w9 w10 := ((Fr.refl _ w9).alloc _).trans (Fr.of_below b10)
  have t10 : TS w10 p m 1 [(5, 4), (7, 2)] := t8.fr (S := S0) ((((Fr.refl _ w8).alloc _).trans (Fr.of_below b9)).trans (((Fr.refl _ w9).alloc _).trans (Fr.of_below b10))) (fun h => h) (fun h => h)
  rw [HL7.out, HG7.out]
  go_wp2_with fail
  refine (tick_S p m 1 _ _ t10 (by omega)).mono ?_
  rintro e w11 ⟨v11, rfl, r11, t11, f11⟩
  rw [HO6.out] at r11
  rw [HS6.out] at t11
  go_wp2_with fail
  have hp10 := t10.lt
  have hS10 : ∀ i, S2 p m i → i < w10.heap.size := fun i e => by rcases e with e | e <;> omega
  have r11' := r11.fr ((Fr.refl (S2 p m) w11).alloc (.cells #[Value.int IntKind.i64 7] 3)) hS10
  refine (same_any _ _ _ _ [7] [7] _ r11' (lit_row w11 [7] (by decide)) (by simp)).mono ?_
  rintro e w12 ⟨rfl, b12⟩
  have k1112 : Fr (S0) w11 w12 := ((Fr.refl _ w11).alloc _).trans (Fr.of_below b12)
  have t12 := t11.fr k1112 (fun h => h) (fun h => h)
  go_wp2_with fail
  refine (now_any p m _ _ _ t12.tab).mono ?_
  rintro e w13 ⟨rfl, rfl⟩
  go_wp2_with fail
  refine (len_any p m _ _ _ t12.tab).mono ?_
  rintro e w13 ⟨rfl, rfl⟩
  go_wp2_with fail
  go_ret
  have kk : Fr (S2 p m) w1 w12 := (((((k14.trans k45).trans k58).trans k89).trans k910).trans f11).trans (k1112.mono fun i e => e.elim)
  exact ⟨rfl, b1.trans (kk.below b1.size fun i e => by rcases e with e | e <;> omega)⟩
end Go.Proofs.Ytmojdafegljghaa
