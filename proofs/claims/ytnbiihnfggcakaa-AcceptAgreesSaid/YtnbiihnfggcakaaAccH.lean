/- filled, equal, works. -/
import Derived.Test.YtnbiihnfggcakaaAccG
set_option linter.unusedVariables false
set_option linter.unusedSimpArgs false
namespace Go.Proofs.Ytnbiihnfggcakaa
open Go.RowKit Go.Maps Go.Shelf

def stepS (s : ASt) (x : Stp) : ASt :=
  if x.1 = 0 then prS s x.2.1 x.2.2.1 x.2.2.2.1 else if x.1 = 1 then acS s x.2.1 x.2.2.1 x.2.2.2.1 x.2.2.2.2 else if x.1 = 2 then foS s x.2.2.2.1 else s
def fillS (l : List Stp) : ASt := l.foldl stepS (newS 3)
theorem fillS_succ {l : List Stp} {i : Nat} {s : Stp} (h : l[i]? = some s) : fillS (l.take (i + 1)) = stepS (fillS (l.take i)) s := by
  unfold fillS; rw [take_snoc h, List.foldl_append]; rfl
def FillPost (L : List Stp) (w : World) (e : Ending) (w' : World) : Prop :=
  ∃ p m, e = .returned (.pointer (some ⟨p, 0, none⟩)) ∧ AS w' p m (fillS L) ∧ w.heap.size ≤ p ∧ w.heap.size ≤ m ∧ Below w.heap.size w w'

set_option maxRecDepth 100000 in
set_option maxHeartbeats 2000000 in
theorem filled_any (v : Value) (L : List Stp) (w : World) (h : StepsIn w v L) :
    Calls Try.prog 34 #[v] w (FillPost L w) := by
  obtain ⟨A, cap, rfl, hle, hm, hin, hc⟩ := h
  have HC := Lib.hid hc
  have HIN := Lib.hid hin
  have hml : cap ≤ 9223372036854775807 := by unfold maxLen at hm; omega
  clear hc hin hm
  go_enter Try.func34, Try.ntmps34
  go_wp2_with (go_at_call 14; refine (new_S _ 3 ⟨by decide, by decide⟩).mono ?_; rintro e w1 ⟨p, m, rfl, t1, hp, hm, b1⟩)
  have T1 := Lib.hid t1
  clear t1
  go_loopw [5] (fun c wr => ∃ (i : Nat), i ≤ L.length ∧ c = .int .i64 i ∧ AS wr p m (fillS (L.take i)) ∧ Below w.heap.size w wr) (fun c _ => L.length - (intOf c).toNat)
  case atStart => exact ⟨0, by omega, rfl, T1.out, b1⟩
  case round =>
    obtain ⟨i, hi, rfl, ht, hB⟩ := hrel
    have T := Lib.hid ht
    clear ht
    by_cases hlt : i < L.length
    · obtain ⟨b, off, rfl, hb, hcells⟩ := HC.out (by omega)
      obtain ⟨⟨x, r, d, k, s⟩, hs⟩ : ∃ s, L[i]? = some s := ⟨_, List.getElem?_eq_getElem hlt⟩
      obtain ⟨q0, q1, q2, q3, q4⟩ := hcells i _ hs
      have d0 := bcell hB q0
      have d1 := bcell hB q1
      have d2 := bcell hB q2
      have d3 := bcell hB q3
      have d4 := bcell hB q4
      have HN := Lib.hid (fillS_succ hs)
      generalize fillS (L.take i) = st at *
      clear q0 q1 q2 q3 q4 hs hcells
      by_cases x0 : x = 0
      · have x0' : ((x : Int) == 0) = true := by simpa using x0
        have E : Hid (stepS st (x, r, d, k, s) = prS st r d k) := by simp [stepS, x0, Hid]
        clear x0
        go_wp2_with fail
        go_still_tail 11, (by kernel_rfl)
        go_wp2_with (go_at_call 18; refine (promise_S p m st _ r d k T.out.drew).mono ?_; rintro e w2 ⟨v2, rfl, _, t2, f2⟩)
        go_roundw
        case rel => exact ⟨i + 1, by omega, by go_num, by rw [HN.out, E.out]; exact t2, Fr.upB hB (Fr.of_drew f2) (fun j e => by have e : j = p := e; omega)⟩
        case measure => simp [intOf]; omega
      · have x0' : ((x : Int) == 0) = false := by simpa using x0
        by_cases x1 : x = 1
        · have x1' : ((x : Int) == 1) = true := by simpa using x1
          have E : Hid (stepS st (x, r, d, k, s) = acS st r d k s) := by simp [stepS, x1, Hid]
          clear x1 x0
          go_wp2_with fail
          go_still_tail 16, (by kernel_rfl)
          go_wp2_with (go_at_call 19; refine (accept_S p m st _ r d k s T.out.drew).mono ?_; rintro e w2 ⟨rfl, t2, f2⟩)
          go_roundw
          case rel => exact ⟨i + 1, by omega, by go_num, by rw [HN.out, E.out]; exact t2, Fr.upB hB (Fr.of_drew f2) (fun j e => by rcases e with e | e <;> omega)⟩
          case measure => simp [intOf]; omega
        · have x1' : ((x : Int) == 1) = false := by simpa using x1
          by_cases x2 : x = 2
          · have x2' : ((x : Int) == 2) = true := by simpa using x2
            have E : Hid (stepS st (x, r, d, k, s) = foS st k) := by simp [stepS, x2, Hid]
            clear x1 x0 x2
            go_wp2_with (go_at_call 20; refine (forget_S p m st _ k T.out).mono ?_; rintro e w2 ⟨rfl, t2, f2⟩)
            go_roundw
            case rel => exact ⟨i + 1, by omega, by go_num, by rw [HN.out, E.out]; exact t2, Fr.upB hB f2 (fun j e => by rcases e with e | e <;> omega)⟩
            case measure => simp [intOf]; omega
          · have x2' : ((x : Int) == 2) = false := by simpa using x2
            have E : Hid (stepS st (x, r, d, k, s) = st) := by simp [stepS, x0, x1, x2, Hid]
            clear x1 x0 x2
            go_wp2_with fail
            go_roundw
            case rel => exact ⟨i + 1, by omega, by go_num, by rw [HN.out, E.out]; exact T.out, hB⟩
            case measure => simp [intOf]; omega
    · have e : i = L.length := by omega
      subst e
      have ht := T.out
      rw [List.take_length] at ht
      go_wp2_with fail
      go_returns
      exact ⟨p, m, rfl, ht, hp, hm, hB⟩

theorem listL_zero {s : ASt} (h : AGood s) : listL 0 s.L = s.L := by
  unfold listL
  rw [List.filter_eq_self]
  intro p hp
  have := h.slots p hp
  have := h.base
  simp
  omega

/-- What equal says of two states. -/
def eqA (s t : ASt) : Bool := (s.r == t.r && s.d == t.d) && (s.base == t.base) && decide (listL 0 s.L = listL 0 t.L)

set_option maxRecDepth 100000 in
set_option maxHeartbeats 2000000 in
theorem equal_any (p m q n : Nat) (s t : ASt) (w : World) (h : AS w p m s) (k : AS w q n t) :
    Calls Try.prog 35 #[.pointer (some ⟨p, 0, none⟩), .pointer (some ⟨q, 0, none⟩)] w fun e w' => e = .returned (.bool (eqA s t)) ∧ Below w.heap.size w w' := by
  have hE := fun (a b c d : Int) (w : World) => eqBal a b c d w
  have hG := eqGBal
  have H := Lib.hid h
  have K := Lib.hid k
  have tok1 : True := trivial
  have tok2 : True := trivial
  have tok3 : True := trivial
  unfold eqA
  cases hb : (s.r == t.r && s.d == t.d) with
  | false =>
    clear h k
    go_enter Try.func35, Try.ntmps35
    go_wp2_with (first
      | (go_at_call 15; have _t := tok1; refine (promised_S p m s _ H.out).mono ?_; rintro e w1 ⟨rfl, b1⟩; have B1 := Lib.hid b1; have K1 := Lib.hid (K.out.below b1); clear b1 tok1)
      | (go_at_call 15; refine (promised_S q n t _ K1.out).mono ?_; rintro e w2 ⟨rfl, b2⟩; have B2 := Lib.hid (bchain B1.out b2); clear b2))
    go_returns
    exact ⟨rfl, B2.out⟩
  | true =>
    cases hc : (s.base == t.base) with
    | false =>
      clear h k
      go_enter Try.func35, Try.ntmps35
      go_wp2_with (first
        | (go_at_call 15; have _t := tok1; refine (promised_S p m s _ H.out).mono ?_; rintro e w1 ⟨rfl, b1⟩; have B1 := Lib.hid b1; have H1 := Lib.hid (H.out.below b1); have K1 := Lib.hid (K.out.below b1); clear b1 tok1)
        | (go_at_call 15; refine (promised_S q n t _ K1.out).mono ?_; rintro e w2 ⟨rfl, b2⟩; have B2 := Lib.hid (bchain B1.out b2); have H2 := Lib.hid (H1.out.below b2); have K2 := Lib.hid (K1.out.below b2); clear b2)
        | (go_at_call 17; have _t := tok2; refine (base_S p m s _ H2.out).mono ?_; rintro e w' ⟨rfl, rfl⟩; clear tok2)
        | (go_at_call 17; refine (base_S q n t _ K2.out).mono ?_; rintro e w' ⟨rfl, rfl⟩))
      go_returns
      exact ⟨rfl, B2.out⟩
    | true =>
      clear h k
      go_enter Try.func35, Try.ntmps35
      go_wp2_with (first
        | (go_at_call 15; have _t := tok1; refine (promised_S p m s _ H.out).mono ?_; rintro e w1 ⟨rfl, b1⟩; have B1 := Lib.hid b1; have H1 := Lib.hid (H.out.below b1); have K1 := Lib.hid (K.out.below b1); clear b1 tok1)
        | (go_at_call 15; refine (promised_S q n t _ K1.out).mono ?_; rintro e w2 ⟨rfl, b2⟩; have B2 := Lib.hid (bchain B1.out b2); have H2 := Lib.hid (H1.out.below b2); have K2 := Lib.hid (K1.out.below b2); clear b2)
        | (go_at_call 17; have _t := tok2; refine (base_S p m s _ H2.out).mono ?_; rintro e w' ⟨rfl, rfl⟩; clear tok2)
        | (go_at_call 17; refine (base_S q n t _ K2.out).mono ?_; rintro e w' ⟨rfl, rfl⟩)
        | (go_at_call 16; have _t := tok3; refine (list_S p m s _ 0 H2.out).mono ?_; rintro e w3 ⟨v3, rfl, r3, b3⟩; have B3 := Lib.hid (bchain B2.out b3); have K3 := Lib.hid (K2.out.below b3); have R3 := Lib.hid r3; clear b3 tok3 r3)
        | (go_at_call 16; refine (list_S q n t _ 0 K3.out).mono ?_; rintro e w4 ⟨v4, rfl, r4, b4⟩; have B4 := Lib.hid (bchain B3.out b4); have R4 := Lib.hid r4; have R5 := Lib.hid (R3.out.below b4); clear b4 r4)
        | (go_at_call 36; refine (entries_any _ _ _ _ _ _ _ R5.out R4.out (by have h1 := H.out.good.len; have h2 := List.length_filter_le (fun p : Int × Ent => decide (0 ≤ p.1)) s.L; unfold listL; omega)).mono ?_; rintro e w5 ⟨rfl, b5⟩; have B5 := Lib.hid (bchain B4.out b5); clear b5))
      go_returns
      exact ⟨by simp, B5.out⟩
end Go.Proofs.Ytnbiihnfggcakaa
