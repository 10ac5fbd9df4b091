/- Lists of entries compared; two acceptors compared. -/
import Derived.Test.YtnbiihnfggcakaaAccE
import Derived.Laws.StructEq
set_option linter.unusedVariables false
set_option linter.unusedSimpArgs false
namespace Go.Proofs.Ytnbiihnfggcakaa
open Go.RowKit Go.Maps Go.Shelf

/-- What '==' says of two entries. -/
def entEq (p q : Int × Ent) : Bool := p.1 == q.1 && (p.2.1 == q.2.1 && p.2.2.1 == q.2.2.1) && (p.2.2.2.toList == q.2.2.2.toList)
theorem toList_inj {a b : ByteArray} (h : a.toList = b.toList) : a = b := by
  rw [ByteArray.toList_eq, ByteArray.toList_eq] at h
  obtain ⟨⟨x⟩⟩ := a
  obtain ⟨⟨y⟩⟩ := b
  simp at h
  rw [h]
theorem entEq_iff (p q : Int × Ent) : entEq p q = true ↔ p = q := by
  obtain ⟨s, a, b, v⟩ := p
  obtain ⟨t, c, d, u⟩ := q
  simp only [entEq, Bool.and_eq_true, beq_iff_eq, Prod.mk.injEq]
  constructor
  · rintro ⟨⟨h1, h2, h3⟩, h4⟩
    exact ⟨h1, h2, h3, toList_inj h4⟩
  · rintro ⟨h1, h2, h3, h4⟩
    exact ⟨⟨h1, h2, h3⟩, by rw [h4]⟩

theorem eqEnt (s a b : Int) (v : ByteArray) (t c d : Int) (u : ByteArray) (w : World) :
    (Op.equalIn 10000 43 (.agg #[.int .i64 s, .int .i64 a, .int .i64 b, .string v]) (.agg #[.int .i64 t, .int .i64 c, .int .i64 d, .string u])).run Try.prog w = .ok (entEq (s, a, b, v) (t, c, d, u)) w := by
  have u3 := Try.underlying3
  have a3 := Try.isAgg3
  have z3 := Try.sizeOf3
  have u9 := Try.underlying9
  have a9 := Try.isAgg9
  have z9 := Try.sizeOf9
  have aB := Try.isAgg30
  have zB := Try.sizeOf30
  have hS : Try.prog.underlying 43 = some (.struct (Try.prog.fieldsOf 43)) := by kernel_rfl
  have hp : Try.prog.stoodInHeld 43 = false := by kernel_rfl
  have hSB : Try.prog.underlying 30 = some (.struct (Try.prog.fieldsOf 30)) := by kernel_rfl
  have hpB : Try.prog.stoodInHeld 30 = false := by kernel_rfl
  have hBal : ∀ (a b c d : Int) (w : World), (Op.equalIn 9999 30 (.agg #[.int .i64 a, .int .i64 b]) (.agg #[.int .i64 c, .int .i64 d])).run Try.prog w = .ok (a == c && b == d) w := by
    intro a b c d w
    rw [show (9999 : Nat) = 9998 + 1 from rfl, run_equalIn_agg w 9998 30 _ _ hSB hpB]
    simp only [Program.fieldsOf, Try.underlying30]
    go_simp
    by_cases h1 : a = c <;> by_cases h2 : b = d <;> simp [h1, h2]
  rw [show (10000 : Nat) = 9999 + 1 from rfl, run_equalIn_agg w 9999 43 _ _ hS hp]
  simp only [Program.fieldsOf, Try.underlying43]
  unfold entEq
  go_simp
  by_cases h1 : s = t <;> by_cases h2 : a = c <;> by_cases h3 : b = d <;> by_cases h4 : v.toList = u.toList <;> simp [h1, h2, h3, h4]
theorem eqGEnt : Try.prog.eqGuardType Try.prog.depth 43 = false := by kernel_rfl

set_option maxRecDepth 100000 in
set_option maxHeartbeats 1000000 in
theorem same_any (v1 v2 : Value) (lo1 lo2 : Nat) (xs ys : EL) (w : World) (h1 : EntRow w lo1 v1 xs) (h2 : EntRow w lo2 v2 ys) (hl : xs.length ≤ 1000000000) :
    Calls Try.prog 25 #[v1, v2] w fun e w' => e = .returned (.bool (decide (xs = ys))) ∧ Below w.heap.size w w' := by
  have hE := fun (s a b : Int) (v : ByteArray) (t c d : Int) (u : ByteArray) (w : World) => eqEnt s a b v t c d u w
  have hG := eqGEnt
  obtain ⟨A1, k1, rfl, hk1, hc1⟩ := h1.view
  obtain ⟨A2, k2, rfl, hk2, hc2⟩ := h2.view
  have HC1 := Lib.hid hc1
  have HC2 := Lib.hid hc2
  clear h1 h2 hc1 hc2
  go_enter Try.func25, Try.ntmps25
  by_cases he : xs.length = ys.length
  · have he' : ((xs.length : Int) == (ys.length : Int)) = true := by simp [he]
    have he2 : ((xs.length : Int) != (ys.length : Int)) = false := by simp [he]
    have HE := Lib.hid he
    have hl2 : ys.length ≤ 1000000000 := by omega
    clear he
    go_wp2_with fail
    go_loopw [5] (fun c wr => ∃ i : Nat, i ≤ xs.length ∧ c = .int .i64 i ∧ (∀ j, j < i → xs[j]? = ys[j]?) ∧ Below w.heap.size w wr) (fun c _ => xs.length - (intOf c).toNat)
    case atStart => exact ⟨0, by omega, rfl, fun j hj => by omega, Below.refl _ _⟩
    case round =>
      obtain ⟨i, hi, rfl, hup, hB⟩ := hrel
      have HUP := Lib.hid hup
      clear hup
      by_cases hlt : i < xs.length
      · obtain ⟨g1, rfl, _, _, hg1⟩ := HC1.out (by omega)
        obtain ⟨g2, rfl, _, _, hg2⟩ := HC2.out (by have := HE.out; omega)
        obtain ⟨⟨s, a, b, v⟩, hx⟩ : ∃ x, xs[i]? = some x := ⟨_, List.getElem?_eq_getElem hlt⟩
        have hlt2 : i < ys.length := by have := HE.out; omega
        obtain ⟨⟨t, c, d, u⟩, hy⟩ : ∃ y, ys[i]? = some y := ⟨_, List.getElem?_eq_getElem hlt2⟩
        obtain ⟨m1, m2, m3, m4⟩ := hg1 i _ _ hx
        obtain ⟨n1, n2, n3, n4⟩ := hg2 i _ _ hy
        have x1 := bcell hB m1
        have x2 := bcell hB m2
        have x3 := bcell hB m3
        have x4 := bcell hB m4
        have y1 := bcell hB n1
        have y2 := bcell hB n2
        have y3 := bcell hB n3
        have y4 := bcell hB n4
        have HX := Lib.hid hx
        have HY := Lib.hid hy
        clear hx hy hg1 hg2 m1 m2 m3 m4 n1 n2 n3 n4
        by_cases hxy : entEq (s, a, b, v) (t, c, d, u) = true
        · have HN : Hid (∀ j, j < i + 1 → xs[j]? = ys[j]?) := by
            intro j hj
            by_cases e : j = i
            · subst e; rw [HX.out, HY.out, (entEq_iff _ _).1 hxy]
            · exact HUP.out j (by omega)
          go_wp2_with fail
          go_quiet (fail)
          go_wp2_with fail
          go_roundw
          case rel => exact ⟨i + 1, by omega, by go_num, HN.out, below_drewN hB _⟩
          case measure => simp [intOf]; omega
        · have hxy' : entEq (s, a, b, v) (t, c, d, u) = false := by simpa using hxy
          have HD : Hid (decide (xs = ys) = false) := by
            refine decide_eq_false fun e => hxy ?_
            have h1 := HX.out
            rw [e, HY.out] at h1
            exact (entEq_iff _ _).2 (Option.some.inj h1).symm
          clear hxy
          go_wp2_with fail
          go_quiet (fail)
          go_wp2_with fail
          go_returns
          rw [HD.out]
          exact ⟨rfl, below_drewN hB _⟩
      · have e : i = xs.length := by omega
        have HD : Hid (decide (xs = ys) = true) := by
          refine decide_eq_true (List.ext_getElem? fun j => ?_)
          by_cases hj : j < xs.length
          · exact HUP.out j (by omega)
          · have := HE.out
            rw [List.getElem?_eq_none (by omega), List.getElem?_eq_none (by omega)]
        subst e
        go_wp2_with fail
        go_returns
        rw [HD.out]
        exact ⟨rfl, hB⟩
  · have he' : ((xs.length : Int) == (ys.length : Int)) = false := by simp; omega
    have he2 : ((xs.length : Int) != (ys.length : Int)) = true := by simp; omega
    have HD : Hid (decide (xs = ys) = false) := decide_eq_false fun e => he (by rw [e])
    clear he
    go_wp2_with fail
    go_returns
    rw [HD.out]
    exact ⟨rfl, Below.refl _ _⟩

set_option maxRecDepth 100000 in
set_option maxHeartbeats 1000000 in
theorem entries_any (v1 v2 : Value) (lo1 lo2 : Nat) (xs ys : EL) (w : World) (h1 : EntRow w lo1 v1 xs) (h2 : EntRow w lo2 v2 ys) (hl : xs.length ≤ 1000000000) :
    Calls Try.prog 36 #[v1, v2] w fun e w' => e = .returned (.bool (decide (xs = ys))) ∧ Below w.heap.size w w' := by
  have hE := fun (s a b : Int) (v : ByteArray) (t c d : Int) (u : ByteArray) (w : World) => eqEnt s a b v t c d u w
  have hG := eqGEnt
  obtain ⟨A1, k1, rfl, hk1, hc1⟩ := h1.view
  obtain ⟨A2, k2, rfl, hk2, hc2⟩ := h2.view
  have HC1 := Lib.hid hc1
  have HC2 := Lib.hid hc2
  clear h1 h2 hc1 hc2
  go_enter Try.func36, Try.ntmps36
  by_cases he : xs.length = ys.length
  · have he' : ((xs.length : Int) == (ys.length : Int)) = true := by simp [he]
    have he2 : ((xs.length : Int) != (ys.length : Int)) = false := by simp [he]
    have HE := Lib.hid he
    have hl2 : ys.length ≤ 1000000000 := by omega
    clear he
    go_wp2_with fail
    go_loopw [5] (fun c wr => ∃ i : Nat, i ≤ xs.length ∧ c = .int .i64 i ∧ (∀ j, j < i → xs[j]? = ys[j]?) ∧ Below w.heap.size w wr) (fun c _ => xs.length - (intOf c).toNat)
    case atStart => exact ⟨0, by omega, rfl, fun j hj => by omega, Below.refl _ _⟩
    case round =>
      obtain ⟨i, hi, rfl, hup, hB⟩ := hrel
      have HUP := Lib.hid hup
      clear hup
      by_cases hlt : i < xs.length
      · obtain ⟨g1, rfl, _, _, hg1⟩ := HC1.out (by omega)
        obtain ⟨g2, rfl, _, _, hg2⟩ := HC2.out (by have := HE.out; omega)
        obtain ⟨⟨s, a, b, v⟩, hx⟩ : ∃ x, xs[i]? = some x := ⟨_, List.getElem?_eq_getElem hlt⟩
        have hlt2 : i < ys.length := by have := HE.out; omega
        obtain ⟨⟨t, c, d, u⟩, hy⟩ : ∃ y, ys[i]? = some y := ⟨_, List.getElem?_eq_getElem hlt2⟩
        obtain ⟨m1, m2, m3, m4⟩ := hg1 i _ _ hx
        obtain ⟨n1, n2, n3, n4⟩ := hg2 i _ _ hy
        have x1 := bcell hB m1
        have x2 := bcell hB m2
        have x3 := bcell hB m3
        have x4 := bcell hB m4
        have y1 := bcell hB n1
        have y2 := bcell hB n2
        have y3 := bcell hB n3
        have y4 := bcell hB n4
        have HX := Lib.hid hx
        have HY := Lib.hid hy
        clear hx hy hg1 hg2 m1 m2 m3 m4 n1 n2 n3 n4
        by_cases hxy : entEq (s, a, b, v) (t, c, d, u) = true
        · have HN : Hid (∀ j, j < i + 1 → xs[j]? = ys[j]?) := by
            intro j hj
            by_cases e : j = i
            · subst e; rw [HX.out, HY.out, (entEq_iff _ _).1 hxy]
            · exact HUP.out j (by omega)
          go_wp2_with fail
          go_quiet (fail)
          go_wp2_with fail
          go_roundw
          case rel => exact ⟨i + 1, by omega, by go_num, HN.out, below_drewN hB _⟩
          case measure => simp [intOf]; omega
        · have hxy' : entEq (s, a, b, v) (t, c, d, u) = false := by simpa using hxy
          have HD : Hid (decide (xs = ys) = false) := by
            refine decide_eq_false fun e => hxy ?_
            have h1 := HX.out
            rw [e, HY.out] at h1
            exact (entEq_iff _ _).2 (Option.some.inj h1).symm
          clear hxy
          go_wp2_with fail
          go_quiet (fail)
          go_wp2_with fail
          go_returns
          rw [HD.out]
          exact ⟨rfl, below_drewN hB _⟩
      · have e : i = xs.length := by omega
        have HD : Hid (decide (xs = ys) = true) := by
          refine decide_eq_true (List.ext_getElem? fun j => ?_)
          by_cases hj : j < xs.length
          · exact HUP.out j (by omega)
          · have := HE.out
            rw [List.getElem?_eq_none (by omega), List.getElem?_eq_none (by omega)]
        subst e
        go_wp2_with fail
        go_returns
        rw [HD.out]
        exact ⟨rfl, hB⟩
  · have he' : ((xs.length : Int) == (ys.length : Int)) = false := by simp; omega
    have he2 : ((xs.length : Int) != (ys.length : Int)) = true := by simp; omega
    have HD : Hid (decide (xs = ys) = false) := decide_eq_false fun e => he (by rw [e])
    clear he
    go_wp2_with fail
    go_returns
    rw [HD.out]
    exact ⟨rfl, Below.refl _ _⟩
end Go.Proofs.Ytnbiihnfggcakaa
