/- Records as the reference reads them: plain. -/
import Derived.Test.YtlfikhblmbidmaaGreatDoorMrgE
set_option linter.unusedVariables false
set_option linter.unusedSimpArgs false
namespace Go.Proofs.YtlfikhblmbidmaaGreatDoor

/-- A number that is at most most; else the reader fails. -/
def rdM (most : Nat) (s : Rd) : Nat × Rd := if (rdU s).1 ≤ most then rdU s else (0, none)
theorem rdM_yes {most : Nat} {s : Rd} (h : (rdU s).1 ≤ most) : rdM most s = rdU s := if_pos h
theorem rdM_no {most : Nat} {s : Rd} (h : ¬ (rdU s).1 ≤ most) : rdM most s = (0, none) := if_neg h
theorem rdU_n : rdU none = (0, none) := rfl
theorem rdM_n (most : Nat) : rdM most none = (0, none) := rdM_yes (Nat.zero_le _)
theorem rdM_le (most : Nat) (s : Rd) : (rdM most s).1 ≤ most := by
  unfold rdM
  split
  · assumption
  · exact Nat.zero_le _
theorem rdT_n : rdT none = ([], none) := rfl
theorem rdN_M {most : Nat} {s : Rd} (h : (rdU s).1 ≤ most) : rdN most s = some (rdM most s) := by rw [rdN_yes h, rdM_yes h]
def refBal (k : Nat) (s : Rd) : Nat × Nat × Rd := if k = 1 ∨ k = 2 then ((rdM 1073741824 s).1, (rdM 6 (rdM 1073741824 s).2).1, (rdM 6 (rdM 1073741824 s).2).2) else (0, 0, s)
def refVal (k : Nat) (s : Rd) : Nat × List UInt8 × Rd := if k = 2 ∨ k = 3 then ((rdM 4095 s).1, (rdT (rdM 4095 s).2).1, (rdT (rdM 4095 s).2).2) else (0, [], s)
theorem refVal_n (k : Nat) : (refVal k none).2.2 = none := by
  unfold refVal
  split
  · rw [rdM_n, rdT_n]
  · rfl
theorem refBal_n (k : Nat) : (refBal k none).2.2 = none := by
  unfold refBal
  split
  · rw [rdM_n, rdM_n]
  · rfl
/-- What is wrong with a record. -/
def refBad (b : List UInt8) (k ro no : Nat) (s : Rd) : Prop := 65536 < b.length ∨ k = 0 ∨ (k < 3 ∧ okB ro no = false) ∨ endE s ≠ 0
theorem bad_none (b : List UInt8) (k ro no : Nat) : refBad b k ro no none := .inr (.inr (.inr (by decide)))
def refK (b : List UInt8) : Nat := (rdM 3 (some b)).1
def refQ (b : List UInt8) : Nat × Nat × Rd := refBal (refK b) (rdM 3 (some b)).2
def refT (b : List UInt8) : Nat × List UInt8 × Rd := refVal (refK b) (refQ b).2.2
theorem okB_nat (ro no : Nat) (h1 : ro ≤ 1073741824) (h2 : no ≤ 6) : okB ro no = decide (1 ≤ ro) := by
  by_cases h : 1 ≤ ro
  · rw [decide_eq_true h]
    exact (okB_iff _ _).2 (by omega)
  · rw [decide_eq_false h, Bool.eq_false_iff]
    intro e
    have := (okB_iff _ _).1 e
    omega
theorem last_eq (x : Rec) (s : Rd) : (match (some (x, s) : Option (Rec × Rd)) with | some (y, some []) => some y | _ => none) = if endE s ≠ 0 then none else some x := by
  cases s with
  | none => rfl
  | some r => cases r <;> rfl
theorem parse_bad {b : List UInt8} (h : refBad b (refK b) (refQ b).1 (refQ b).2.1 (refT b).2.2) : parseP b = none := by
  unfold parseP
  split
  · rfl
  rename_i hlen
  unfold readR
  by_cases h3 : (rdU (some b)).1 ≤ 3
  case neg => rw [rdN_no h3]; rfl
  rw [rdN_M h3]
  obtain ⟨⟨k, s1⟩, hk⟩ : ∃ p, rdM 3 (some b) = p := ⟨_, rfl⟩
  have hK : refK b = k := by unfold refK; rw [hk]
  have hk3 : k ≤ 3 := by have := rdM_le 3 (some b); rw [hk] at this; exact this
  rw [hK] at h
  unfold refT refQ at h
  rw [hK, hk] at h
  rw [hk]
  show (match (if k = 0 then none else (readB k s1).bind fun q => (readS k q.2.2).bind fun t => some ((⟨k, q.1, q.2.1, t.1, t.2.1⟩ : Rec), t.2.2)) with | some (x, some []) => some x | _ => none) = none
  by_cases h0 : k = 0
  · rw [if_pos h0]
  rw [if_neg h0]
  -- the ballot
  by_cases hkb : k = 3
  · subst hkb
    have e1 : refBal 3 s1 = (0, 0, s1) := rfl
    simp only [e1] at h
    have e2 : readB 3 s1 = some (0, 0, s1) := rfl
    rw [e2]
    show (match ((readS 3 s1).bind fun t => some ((⟨3, 0, 0, t.1, t.2.1⟩ : Rec), t.2.2)) with | some (x, some []) => some x | _ => none) = none
    by_cases h4 : (rdU s1).1 ≤ 4095
    · have e3 : readS 3 s1 = some ((rdM 4095 s1).1, (rdT (rdM 4095 s1).2).1, (rdT (rdM 4095 s1).2).2) := by unfold readS; rw [if_neg (by decide), rdN_M h4]; rfl
      rw [e3]
      show (match (some ((⟨3, 0, 0, (rdM 4095 s1).1, (rdT (rdM 4095 s1).2).1⟩ : Rec), (rdT (rdM 4095 s1).2).2) : Option (Rec × Rd)) with | some (x, some []) => some x | _ => none) = none
      rw [last_eq]
      refine if_pos ?_
      rcases h with h | h | h | h
      · exact absurd h hlen
      · exact absurd h (by decide)
      · exact absurd h.1 (by decide)
      · exact h
    · have e3 : readS 3 s1 = none := by unfold readS; rw [if_neg (by decide), rdN_no h4]; rfl
      rw [e3]
      rfl
  · have hk12 : k = 1 ∨ k = 2 := by omega
    by_cases h5 : (rdU s1).1 ≤ 1073741824
    case neg =>
      have e2 : readB k s1 = none := by unfold readB; rw [if_neg hkb, rdN_no h5]; rfl
      rw [e2]; rfl
    by_cases h6 : (rdU (rdM 1073741824 s1).2).1 ≤ 6
    case neg =>
      have e2 : readB k s1 = none := by unfold readB; rw [if_neg hkb, rdN_M h5, Option.bind_some, rdN_no h6]; rfl
      rw [e2]; rfl
    have e1 : refBal k s1 = ((rdM 1073741824 s1).1, (rdM 6 (rdM 1073741824 s1).2).1, (rdM 6 (rdM 1073741824 s1).2).2) := if_pos hk12
    have h7 := rdM_le 1073741824 s1
    have h8 := rdM_le 6 (rdM 1073741824 s1).2
    rw [e1] at h
    generalize hA : rdM 1073741824 s1 = A at *
    generalize hC : rdM 6 A.2 = C at *
    by_cases h9 : 1 ≤ A.1
    case neg =>
      have e2 : readB k s1 = none := by unfold readB; rw [if_neg hkb, rdN_M h5, Option.bind_some, hA, rdN_M h6, Option.bind_some, hC, if_neg h9]
      rw [e2]; rfl
    have e2 : readB k s1 = some (A.1, C.1, C.2) := by unfold readB; rw [if_neg hkb, rdN_M h5, Option.bind_some, hA, rdN_M h6, Option.bind_some, hC, if_pos h9]
    rw [e2]
    have hok : okB A.1 C.1 = true := by rw [okB_nat _ _ h7 h8]; exact decide_eq_true h9
    show (match ((readS k C.2).bind fun t => some ((⟨k, A.1, C.1, t.1, t.2.1⟩ : Rec), t.2.2)) with | some (x, some []) => some x | _ => none) = none
    by_cases hk1 : k = 1
    · subst hk1
      have e3 : readS 1 C.2 = some (0, [], C.2) := rfl
      have e4 : refVal 1 C.2 = (0, [], C.2) := rfl
      simp only [e4] at h
      rw [e3]
      show (match (some ((⟨1, A.1, C.1, 0, []⟩ : Rec), C.2) : Option (Rec × Rd)) with | some (x, some []) => some x | _ => none) = none
      rw [last_eq]
      refine if_pos ?_
      rcases h with h | h | h | h
      · exact absurd h hlen
      · exact absurd h (by decide)
      · rw [hok] at h; exact absurd h.2 (by simp)
      · exact h
    · obtain rfl : k = 2 := by omega
      by_cases h4 : (rdU C.2).1 ≤ 4095
      · have e3 : readS 2 C.2 = some ((rdM 4095 C.2).1, (rdT (rdM 4095 C.2).2).1, (rdT (rdM 4095 C.2).2).2) := by unfold readS; rw [if_neg (by decide), rdN_M h4]; rfl
        have e4 : refVal 2 C.2 = ((rdM 4095 C.2).1, (rdT (rdM 4095 C.2).2).1, (rdT (rdM 4095 C.2).2).2) := rfl
        simp only [e4] at h
        rw [e3]
        show (match (some ((⟨2, A.1, C.1, (rdM 4095 C.2).1, (rdT (rdM 4095 C.2).2).1⟩ : Rec), (rdT (rdM 4095 C.2).2).2) : Option (Rec × Rd)) with | some (x, some []) => some x | _ => none) = none
        rw [last_eq]
        refine if_pos ?_
        rcases h with h | h | h | h
        · exact absurd h hlen
        · exact absurd h (by decide)
        · rw [hok] at h; exact absurd h.2 (by simp)
        · exact h
      · have e3 : readS 2 C.2 = none := by unfold readS; rw [if_neg (by decide), rdN_no h4]; rfl
        rw [e3]; rfl
theorem parse_good {b : List UInt8} (h : ¬ refBad b (refK b) (refQ b).1 (refQ b).2.1 (refT b).2.2) : parseP b = some ⟨refK b, (refQ b).1, (refQ b).2.1, (refT b).1, (refT b).2.1⟩ := by
  have hlen : ¬ 65536 < b.length := fun e => h (.inl e)
  have hk0 : refK b ≠ 0 := fun e => h (.inr (.inl e))
  have hg : ¬ (refK b < 3 ∧ okB (refQ b).1 (refQ b).2.1 = false) := fun e => h (.inr (.inr (.inl e)))
  have he : endE (refT b).2.2 = 0 := Classical.byContradiction fun e => h (.inr (.inr (.inr e)))
  clear h
  have h3 : (rdU (some b)).1 ≤ 3 := Classical.byContradiction fun e => hk0 (by unfold refK; rw [rdM_no e])
  unfold parseP
  rw [if_neg hlen]
  unfold readR
  rw [rdN_M h3, Option.bind_some]
  obtain ⟨⟨k, s1⟩, hk⟩ : ∃ p, rdM 3 (some b) = p := ⟨_, rfl⟩
  have hK : refK b = k := by unfold refK; rw [hk]
  have hk3 : k ≤ 3 := by have := rdM_le 3 (some b); rw [hk] at this; exact this
  have hQ : refQ b = refBal k s1 := by unfold refQ; rw [hK, hk]
  have hT : refT b = refVal k (refBal k s1).2.2 := by unfold refT; rw [hQ, hK]
  rw [hT] at he ⊢
  rw [hQ] at hg ⊢
  rw [hK] at hk0 hg ⊢
  rw [hk]
  show (match (if k = 0 then none else (readB k s1).bind fun q => (readS k q.2.2).bind fun t => some ((⟨k, q.1, q.2.1, t.1, t.2.1⟩ : Rec), t.2.2)) with | some (x, some []) => some x | _ => none) = _
  rw [if_neg hk0]
  have hnn : ∀ (k : Nat) (s : Rd), endE (refVal k s).2.2 = 0 → s ≠ none := fun k s e hs => by
    rw [hs, refVal_n] at e
    cases e
  have hS : ∀ (k ro no : Nat) (s : Rd), (k = 1 ∨ k = 2 ∨ k = 3) → endE (refVal k s).2.2 = 0 → (match ((readS k s).bind fun t => some ((⟨k, ro, no, t.1, t.2.1⟩ : Rec), t.2.2)) with | some (x, some []) => some x | _ => none) = some ⟨k, ro, no, (refVal k s).1, (refVal k s).2.1⟩ := fun k ro no s hk123 e => by
    by_cases hk1 : k = 1
    · subst hk1
      show (match (some ((⟨1, ro, no, 0, []⟩ : Rec), s) : Option (Rec × Rd)) with | some (x, some []) => some x | _ => none) = _
      rw [last_eq]
      exact if_neg (fun e2 => e2 e)
    · have h23 : k = 2 ∨ k = 3 := by omega
      have e4 : refVal k s = ((rdM 4095 s).1, (rdT (rdM 4095 s).2).1, (rdT (rdM 4095 s).2).2) := if_pos h23
      rw [e4] at e ⊢
      have h4 : (rdU s).1 ≤ 4095 := Classical.byContradiction fun e2 => by
        rw [rdM_no e2, rdT_n] at e
        cases e
      have e3 : readS k s = some ((rdM 4095 s).1, (rdT (rdM 4095 s).2).1, (rdT (rdM 4095 s).2).2) := by unfold readS; rw [if_neg hk1, rdN_M h4]; rfl
      rw [e3]
      show (match (some ((⟨k, ro, no, (rdM 4095 s).1, (rdT (rdM 4095 s).2).1⟩ : Rec), (rdT (rdM 4095 s).2).2) : Option (Rec × Rd)) with | some (x, some []) => some x | _ => none) = _
      rw [last_eq]
      exact if_neg (fun e2 => e2 e)
  by_cases hkb : k = 3
  · subst hkb
    exact hS 3 0 0 s1 (by omega) he
  · have hk12 : k = 1 ∨ k = 2 := by omega
    have e1 : refBal k s1 = ((rdM 1073741824 s1).1, (rdM 6 (rdM 1073741824 s1).2).1, (rdM 6 (rdM 1073741824 s1).2).2) := if_pos hk12
    have hn := hnn _ _ he
    rw [e1] at he hg hn ⊢
    have h6 : (rdU (rdM 1073741824 s1).2).1 ≤ 6 := Classical.byContradiction fun e2 => hn (by show (rdM 6 (rdM 1073741824 s1).2).2 = none; rw [rdM_no e2])
    have h5 : (rdU s1).1 ≤ 1073741824 := Classical.byContradiction fun e2 => hn (by show (rdM 6 (rdM 1073741824 s1).2).2 = none; rw [rdM_no e2, rdM_n])
    have h7 := rdM_le 1073741824 s1
    have h8 := rdM_le 6 (rdM 1073741824 s1).2
    have h9 : 1 ≤ (rdM 1073741824 s1).1 := Classical.byContradiction fun e2 => hg ⟨by omega, by rw [okB_nat _ _ h7 h8]; exact decide_eq_false e2⟩
    have e2 : readB k s1 = some ((rdM 1073741824 s1).1, (rdM 6 (rdM 1073741824 s1).2).1, (rdM 6 (rdM 1073741824 s1).2).2) := by unfold readB; rw [if_neg hkb, rdN_M h5, Option.bind_some, rdN_M h6, Option.bind_some, if_pos h9]
    rw [e2]
    exact hS k _ _ _ (by omega) he
end Go.Proofs.YtlfikhblmbidmaaGreatDoor
