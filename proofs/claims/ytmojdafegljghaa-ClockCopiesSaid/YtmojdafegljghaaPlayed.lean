/- played: a table behind a script. -/
import Derived.Test.YtmojdafegljghaaArgs
set_option linter.unusedVariables false
set_option linter.unusedSimpArgs false
namespace Go.Proofs.Ytmojdafegljghaa
open Go.RowKit Go.Maps Go.Shelf

abbrev St := Int × List (Int × Int)
def stepS (st : St) (s : Int × Int × Int) : St :=
  if s.1 = 0 then (st.1, setS st.1 s.2.1 s.2.2 st.2) else if s.1 = 1 then (st.1, del s.2.1 st.2) else if s.1 = 2 then (st.1 + 1, restT st.1 st.2) else st
def playS (l : List (Int × Int × Int)) : St := l.foldl stepS (0, [])
theorem playS_nil : playS [] = (0, []) := rfl
theorem playS_succ {l : List (Int × Int × Int)} {i : Nat} {s : Int × Int × Int} (h : l[i]? = some s) : playS (l.take (i + 1)) = stepS (playS (l.take i)) s := by
  unfold playS; rw [take_snoc h, List.foldl_append]; rfl

theorem TS.drew {w : World} {p m : Nat} {now : Int} {L : List (Int × Int)} (h : TS w p m now L) : TS w.drew p m now L := ⟨h.tab.drew, h.good⟩
theorem Fr.upB {S : Nat → Prop} {W a b : World} (h : Below W.heap.size W a) (k : Fr S a b) (hS : ∀ i, S i → W.heap.size ≤ i) : Below W.heap.size W b := h.trans (k.below h.size hS)

def PlayedPost (L : List (Int × Int × Int)) (w : World) (e : Ending) (w' : World) : Prop :=
  ∃ p m, e = .returned (.pointer (some ⟨p, 0, none⟩)) ∧ TS w' p m (playS L).1 (playS L).2 ∧ (playS L).1 ≤ L.length ∧ (playS L).2.length ≤ L.length ∧ w.heap.size ≤ p ∧ w.heap.size ≤ m ∧ Below w.heap.size w w'

set_option maxHeartbeats 1000000 in
theorem played_any (v : Value) (L : List (Int × Int × Int)) (w : World) (h : StepsIn w v L) (hl : L.length ≤ 60 ∨ L.length ≤ 100) :
    Calls Try.prog 18 #[v] w (PlayedPost L w) := by
  obtain ⟨A, cap, rfl, hle, hm, hin, hc⟩ := h
  have hl : L.length ≤ 100 := by omega
  have HC := Lib.hid hc
  have HIN := Lib.hid hin
  clear hc hin hm
  go_enter Try.func18, Try.ntmps18
  go_wp2_with (go_at_call 11; refine (new_S _).mono ?_; rintro e w1 ⟨p, m, rfl, t1, hp, hm, b1⟩)
  have T1 := Lib.hid t1
  clear t1
  go_loopw [4] (fun c wr => ∃ (i : Nat) (st : St), i ≤ L.length ∧ c = .int .i64 i ∧ st = playS (L.take i) ∧ TS wr p m st.1 st.2 ∧ 0 ≤ st.1 ∧ st.1 ≤ i ∧ st.2.length ≤ i ∧ Below w.heap.size w wr) (fun c _ => L.length - (intOf c).toNat)
  case atStart => exact ⟨0, (0, []), by omega, rfl, rfl, T1.out, by simp, by simp, by simp, b1⟩
  case round =>
    obtain ⟨i, ⟨now, M⟩, hi, rfl, hst, ht, hn0, hn1, hM, hB⟩ := hrel
    simp only at ht hn0 hn1 hM
    have T := Lib.hid ht
    have HST := Lib.hid hst
    clear ht hst
    by_cases hlt : i < L.length
    · obtain ⟨b, off, rfl, hb, hcells⟩ := HC.out (by omega)
      obtain ⟨⟨x, y, z⟩, hs⟩ : ∃ s, L[i]? = some s := ⟨_, List.getElem?_eq_getElem hlt⟩
      obtain ⟨iy, iz⟩ := (HIN.out _ (List.mem_of_getElem? hs)).2
      obtain ⟨q0, q1, q2⟩ := hcells i x y z hs
      have d0 := bcell hB q0
      have d1 := bcell hB q1
      have d2 := bcell hB q2
      have HN := Lib.hid (playS_succ hs)
      rw [← HST.out] at HN
      have HIY := Lib.hid iy
      clear q0 q1 q2 hs hcells iy iz
      by_cases x0 : x = 0
      · have x0' : ((x : Int) == 0) = true := by simpa using x0
        have E : Hid (stepS (now, M) (x, y, z) = (now, setS now y z M)) := by simp [stepS, x0, Hid]
        clear x0
        go_wp2_with fail
        go_still_tail 11, (by kernel_rfl)
        go_wp2_with (go_at_call 12; refine (set_S p m y z now M _ T.out.drew HIY.out (by omega)).mono ?_; rintro e w2 ⟨rfl, t2, f2⟩)
        go_roundw
        case rel =>
          have hsl := len_setS_le now y z M
          exact ⟨i + 1, (now, setS now y z M), by omega, by go_num, by rw [HN.out, E.out], t2, hn0, by simp only; omega, by simp only; omega, Fr.upB hB (Fr.of_drew f2) (fun j e => by have e : j = m := e; omega)⟩
        case measure => simp [intOf]; omega
      · have x0' : ((x : Int) == 0) = false := by simpa using x0
        by_cases x1 : x = 1
        · have x1' : ((x : Int) == 1) = true := by simpa using x1
          have E : Hid (stepS (now, M) (x, y, z) = (now, del y M)) := by simp [stepS, x1, Hid]
          clear x1 x0
          go_wp2_with (go_at_call 17; refine (stop_S p m y now M _ T.out HIY.out).mono ?_; rintro e w2 ⟨rfl, t2, f2⟩)
          go_roundw
          case rel =>
            have hsl := len_del_le y M
            exact ⟨i + 1, (now, del y M), by omega, by go_num, by rw [HN.out, E.out], t2, hn0, by simp only; omega, by simp only; omega, Fr.upB hB f2 (fun j e => by have e : j = m := e; omega)⟩
          case measure => simp [intOf]; omega
        · have x1' : ((x : Int) == 1) = false := by simpa using x1
          by_cases x2 : x = 2
          · have x2' : ((x : Int) == 2) = true := by simpa using x2
            have E : Hid (stepS (now, M) (x, y, z) = (now + 1, restT now M)) := by simp [stepS, x2, Hid]
            clear x1 x0 x2
            go_wp2_with (go_at_call 13; refine (tick_S p m now M _ T.out (by omega)).mono ?_; rintro e w2 ⟨v2, rfl, _, t2, f2⟩)
            go_roundw
            case rel =>
              have hsl := len_restT_le now M
              exact ⟨i + 1, (now + 1, restT now M), by omega, by go_num, by rw [HN.out, E.out], t2, by simp only; omega, by simp only; omega, by simp only; omega, Fr.upB hB f2 (fun j e => by rcases e with e | e <;> omega)⟩
            case measure => simp [intOf]; omega
          · have x2' : ((x : Int) == 2) = false := by simpa using x2
            have E : Hid (stepS (now, M) (x, y, z) = (now, M)) := by simp [stepS, x0, x1, x2, Hid]
            clear x1 x0 x2
            go_wp2_with fail
            go_roundw
            case rel => exact ⟨i + 1, (now, M), by omega, by go_num, by rw [HN.out, E.out], T.out, hn0, by simp only; omega, by simp only; omega, hB⟩
            case measure => simp [intOf]; omega
    · have e : i = L.length := by omega
      subst e
      have hst := HST.out
      rw [List.take_length] at hst
      have h1 : (playS L).1 = now := by rw [← hst]
      have h2 : (playS L).2 = M := by rw [← hst]
      have H1 := Lib.hid h1
      have H2 := Lib.hid h2
      clear hst h1 h2
      go_wp2_with fail
      go_ret
      refine ⟨p, m, rfl, ?_, by rw [H1.out]; exact hn1, by rw [H2.out]; exact hM, hp, hm, hB⟩
      rw [H1.out, H2.out]
      exact T.out
end Go.Proofs.Ytmojdafegljghaa
