/- Package chosen: Chosen, All, Agree, Check. -/
import Derived.Test.YthkdmpalhdifbaaGreatDoorChoH
set_option linter.unusedVariables false
set_option linter.unusedSimpArgs false
namespace Go.Proofs.YthkdmpalhdifbaaGreatDoor
open Go.RowKit Go.Maps Go.Shelf Go.Sort

/-! ### The smallest slot with two values -/
def twoB (n : Nat) (A : GA) (s : Int) : Bool := (atS n s A).any fun p => (atS n s A).any fun q => p.2.1.data.toList != q.2.1.data.toList
theorem twoB_iff {n : Nat} {A : GA} {s : Int} : twoB n A s = true ↔ Two n A s := by
  unfold twoB Two
  simp only [List.any_eq_true, bne_iff_ne]
  constructor
  · rintro ⟨p, hp, q, hq, hne⟩
    exact ⟨p, hp, q, hq, fun e => hne (by rw [e])⟩
  · rintro ⟨p, hp, q, hq, hne⟩
    exact ⟨p, hp, q, hq, fun e => hne (toList_dat e)⟩
def difG (n : Nat) (A : GA) (B : GA) : Int := B.foldr (fun p m => if twoB n A p.1.1 = true ∧ (m < 0 ∨ p.1.1 < m) then p.1.1 else m) (-1)
theorem difG_ok {n : Nat} {A : GA} (h0 : ∀ p ∈ A, 0 ≤ p.1.1) : ∀ B : GA, (∀ p ∈ B, p ∈ A) →
    ((difG n A B = -1 ∧ ∀ p ∈ B, ¬ Two n A p.1.1) ∨ (0 ≤ difG n A B ∧ Two n A (difG n A B) ∧ ∀ p ∈ B, Two n A p.1.1 → difG n A B ≤ p.1.1))
  | [], _ => .inl ⟨rfl, by simp⟩
  | x :: r, hB => by
    have ih := difG_ok (n := n) h0 r (fun p hp => hB p (by simp [hp]))
    have hx := h0 x (hB x (by simp))
    have e : difG n A (x :: r) = if twoB n A x.1.1 = true ∧ (difG n A r < 0 ∨ x.1.1 < difG n A r) then x.1.1 else difG n A r := rfl
    rw [e]
    by_cases hc : twoB n A x.1.1 = true ∧ (difG n A r < 0 ∨ x.1.1 < difG n A r)
    · rw [if_pos hc]
      refine .inr ⟨hx, twoB_iff.1 hc.1, fun p hp ht => ?_⟩
      rcases List.mem_cons.1 hp with rfl | hp
      · exact Int.le_refl _
      · rcases ih with ⟨h1, h2⟩ | ⟨h1, h2, h3⟩
        · exact absurd ht (h2 p hp)
        · have := h3 p hp ht
          omega
    · rw [if_neg hc]
      rcases ih with ⟨h1, h2⟩ | ⟨h1, h2, h3⟩
      · refine .inl ⟨h1, fun p hp => ?_⟩
        rcases List.mem_cons.1 hp with rfl | hp
        · intro ht
          exact hc ⟨twoB_iff.2 ht, .inl (by omega)⟩
        · exact h2 p hp
      · refine .inr ⟨h1, h2, fun p hp ht => ?_⟩
        rcases List.mem_cons.1 hp with rfl | hp
        · have h4 : ¬ (difG n A r < 0 ∨ p.1.1 < difG n A r) := fun h => hc ⟨twoB_iff.2 ht, h⟩
          omega
        · exact h3 p hp ht
def difF (n : Nat) (A : GA) : Int := difG n A A
theorem pok_dif {n : Nat} {A : GA} {out : List En} {dif : Int} (h : POk n A out dif) (h0 : ∀ p ∈ A, 0 ≤ p.1.1) : dif = difF n A := by
  have h1 := difG_ok h0 A (fun p hp => hp) (n := n)
  unfold difF
  have hin : ∀ s, Two n A s → ∃ p ∈ A, p.1.1 = s := fun s ⟨p, hp, _⟩ => ⟨p, (mem_atS.1 hp).1, (mem_atS.1 hp).2.1⟩
  rcases h.dif with ⟨d1, d2⟩ | ⟨d1, d2, d3⟩ <;> rcases h1 with ⟨e1, e2⟩ | ⟨e1, e2, e3⟩
  · rw [d1, e1]
  · exact absurd e2 (d2 _)
  · obtain ⟨p, hp, hs⟩ := hin _ d2
    exact absurd (hs ▸ d2) (e2 p hp)
  · obtain ⟨p, hp, hs⟩ := hin _ d2
    have a1 := e3 p hp (hs ▸ d2)
    have a2 := d3 _ e2
    omega

/-! ### gather, with what it tells named -/
theorem gather_some {n : Nat} {v : Value} {L : List Vt} {A : GA} (w : World) (h : VotesIn w v L) (hn : 1 ≤ n ∧ n ≤ 7) (hl : L.length ≤ 1000) (hA : (gwalk n [] [] 0 L).1 = some A) :
    Calls Tryz.prog 33 #[v, .int .i64 (n : Int)] w fun e w' => ∃ b, e = .returned (.tuple #[.map (some b), .int .i64 0, .int .i64 0]) ∧ MapG CPl sdV w' b A ∧ w.heap.size ≤ b ∧ Below w.heap.size w w' :=
  (gather_yes n v L w h hn hl).mono fun e w' hp => by
    rcases hp with ⟨A', h1, b, h2, h3, h4, h5⟩ | ⟨i, h1, _⟩
    · rw [h1] at hA
      obtain rfl := Option.some.inj hA
      exact ⟨b, h2, h3, h4, h5⟩
    · rw [h1] at hA; cases hA
theorem gather_none {n : Nat} {v : Value} {L : List Vt} (w : World) (h : VotesIn w v L) (hn : 1 ≤ n ∧ n ≤ 7) (hl : L.length ≤ 1000) (hA : (gwalk n [] [] 0 L).1 = none) :
    Calls Tryz.prog 33 #[v, .int .i64 (n : Int)] w fun e w' => e = .returned (.tuple #[.map none, .int .i64 (gwalk n [] [] 0 L).2, .int .i64 2]) ∧ Below w.heap.size w w' :=
  (gather_yes n v L w h hn hl).mono fun e w' hp => by
    rcases hp with ⟨A', h1, _⟩ | ⟨i, h1, h2, h3⟩
    · rw [h1] at hA; cases hA
    · rw [h1]; exact ⟨h2, h3⟩
theorem gok {n : Nat} {L : List Vt} {A : GA} (hn : 1 ≤ n ∧ n ≤ 7) (hA : (gwalk n [] [] 0 L).1 = some A) : GOk n A ∧ Dst A ∧ A.length ≤ L.length := by
  have e : gwalk n [] [] 0 L = (some A, (gwalk n [] [] 0 L).2) := by rw [← hA]
  obtain ⟨h1, h2⟩ := gwalk_ok hn e (GOk.nil n)
  exact ⟨h1, gwalk_dst e List.Pairwise.nil, by simpa using h2⟩
def chosenF (n : Nat) (L : List Vt) (s : Int) : ByteArray × Bool × Int :=
  match (gwalk n [] [] 0 L).1 with
  | none => (⟨#[]⟩, false, 2)
  | some A => if (decide (s ≥ 0) && decide (s < 4096)) = true then (match pickV n A s with | some v => (v, true, 0) | none => (⟨#[]⟩, false, 0)) else (⟨#[]⟩, false, 3)
def agreeF (n : Nat) (L : List Vt) : Bool × Int × Int :=
  match (gwalk n [] [] 0 L).1 with
  | none => (false, 0, 2)
  | some A => if difF n A ≥ 0 then (false, difF n A, 0) else (true, 0, 0)

/-- The slice v holds the entries L. -/
def EnIn (w : World) (v : Value) (L : List En) : Prop :=
  ∃ A cap, v = .slice A L.length cap ∧ L.length ≤ 9223372036854775807 ∧ (0 < L.length → ∃ b, A = some ⟨b, 0, none⟩ ∧ b < w.heap.size ∧ ∀ (i : Nat) (x : En), L[i]? = some x →
      w.cell? ⟨b, i * 4, none⟩ = some (.int .i64 ((x.1.val : Nat) : Int)) ∧ w.cell? ⟨b, i * 4 + 1, none⟩ = some (.int .i64 x.2.1.1) ∧ w.cell? ⟨b, i * 4 + 2, none⟩ = some (.int .i64 x.2.1.2) ∧ w.cell? ⟨b, i * 4 + 3, none⟩ = some (.string x.2.2))
theorem EnRow.at {w : World} {lo : Nat} {v : Value} {L : List En} (h : EnRow w lo v L) : EnIn w v L := by
  rcases h.2 with ⟨rfl, hn⟩ | ⟨g, cap, cur, rfl, hb, hg, hle, hcap, hsz, htake⟩
  · exact ⟨none, 0, by rw [hn], by omega, fun h0 => by omega⟩
  · refine ⟨_, cap, rfl, by unfold maxLen at hcap; omega, fun h0 => ⟨g, rfl, (Array.getElem?_eq_some_iff.1 hg).1, fun i x hx => ?_⟩⟩
    have hB : Blk w g 58 cur := hg
    have hil : i < L.length := (List.getElem?_eq_some_iff.1 hx).1
    have hc : ∀ j, j < 4 → ∀ u, (encEn x)[j]? = some u → w.cell? ⟨g, i * 4 + j, none⟩ = some u := fun j hj u hu => by
      refine hB.cell ?_
      have h1 := flat_at (enc := encEn) (k := 4) (fun x => rfl) L i x hx j hj
      rw [hu, ← htake, List.getElem?_take, if_pos (by omega)] at h1
      rw [← Array.getElem?_toList]
      exact h1
    exact ⟨hc 0 (by omega) _ rfl, hc 1 (by omega) _ rfl, hc 2 (by omega) _ rfl, hc 3 (by omega) _ rfl⟩
theorem EnIn.below {w w' : World} {v : Value} {L : List En} (h : EnIn w v L) (hb : Below w.heap.size w w') : EnIn w' v L := by
  obtain ⟨A, cap, h1, hm, h2⟩ := h
  refine ⟨A, cap, h1, hm, fun h0 => ?_⟩
  obtain ⟨b, k1, k2, k3⟩ := h2 h0
  refine ⟨b, k1, Nat.lt_of_lt_of_le k2 hb.size, fun i x hx => ?_⟩
  obtain ⟨q0, q1, q2, q3⟩ := k3 i x hx
  exact ⟨bcell hb q0, bcell hb q1, bcell hb q2, bcell hb q3⟩

set_option maxRecDepth 100000 in
set_option maxHeartbeats 2000000 in
theorem agree_any (n : Nat) (v : Value) (L : List Vt) (w : World) (h : VotesIn w v L) (hn : 1 ≤ n ∧ n ≤ 7) (hl : L.length ≤ 1000) :
    Calls Tryz.prog 21 #[v, .int .i64 (n : Int)] w fun e w' => e = .returned (.tuple #[.bool (agreeF n L).1, .int .i64 (agreeF n L).2.1, .int .i64 (agreeF n L).2.2]) ∧ Below w.heap.size w w' := by
  have HV := Lib.hid h
  clear h
  cases hA : (gwalk n [] [] 0 L).1 with
  | none =>
    have HR : Hid (agreeF n L = (false, 0, 2)) := by rw [Hid]; unfold agreeF; rw [hA]
    have HA := Lib.hid hA
    clear hA
    rw [HR.out]
    go_enter Tryz.func21, Tryz.ntmps21
    go_wp2_with (go_at_call 33; refine (gather_none _ HV.out hn hl HA.out).mono ?_; rintro e w1 ⟨rfl, b1⟩; have B1 := Lib.hid b1; clear b1)
    go_returns
    exact ⟨rfl, B1.out⟩
  | some A =>
    obtain ⟨g1, g2, g3⟩ := gok hn hA
    have HA := Lib.hid hA
    have G1 := Lib.hid g1
    have hal : A.length ≤ 1000 := by omega
    cases hd : decide (difF n A ≥ 0) with
    | true =>
      have HR : Hid (agreeF n L = (false, difF n A, 0)) := by rw [Hid]; unfold agreeF; rw [hA]; simp only; rw [if_pos (of_decide_eq_true hd)]
      rw [HR.out]
      clear hA g1 g2 g3
      go_enter Tryz.func21, Tryz.ntmps21
      go_wp2_with (first
        | (go_at_call 33; refine (gather_some _ HV.out hn hl HA.out).mono ?_; rintro e w1 ⟨b, rfl, m1, hb, b1⟩; have B1 := Lib.hid b1; have M1 := Lib.hid m1; clear b1 m1 hb)
        | (go_at_call 45; refine (picked_any n _ A _ M1.out hn G1.out.set G1.out.slot hal).mono ?_; rintro e w2 ⟨vo, out, dif, rfl, r2, p2, b2⟩; have ED := pok_dif p2 (fun p hp => (G1.out.slot p hp).1); subst ED; have B2 := Lib.hid (bchain B1.out b2); clear b2 p2 r2))
      go_returns
      exact ⟨rfl, B2.out⟩
    | false =>
      have HR : Hid (agreeF n L = (true, 0, 0)) := by rw [Hid]; unfold agreeF; rw [hA]; simp only; rw [if_neg (of_decide_eq_false hd)]
      rw [HR.out]
      clear hA g1 g2 g3
      go_enter Tryz.func21, Tryz.ntmps21
      go_wp2_with (first
        | (go_at_call 33; refine (gather_some _ HV.out hn hl HA.out).mono ?_; rintro e w1 ⟨b, rfl, m1, hb, b1⟩; have B1 := Lib.hid b1; have M1 := Lib.hid m1; clear b1 m1 hb)
        | (go_at_call 45; refine (picked_any n _ A _ M1.out hn G1.out.set G1.out.slot hal).mono ?_; rintro e w2 ⟨vo, out, dif, rfl, r2, p2, b2⟩; have ED := pok_dif p2 (fun p hp => (G1.out.slot p hp).1); subst ED; have B2 := Lib.hid (bchain B1.out b2); clear b2 p2 r2))
      go_returns
      exact ⟨rfl, B2.out⟩

set_option maxRecDepth 100000 in
set_option maxHeartbeats 2000000 in
theorem chosen_any (n : Nat) (v : Value) (L : List Vt) (s : Int) (w : World) (h : VotesIn w v L) (hn : 1 ≤ n ∧ n ≤ 7) (hl : L.length ≤ 1000) :
    Calls Tryz.prog 17 #[v, .int .i64 (n : Int), .int .i64 s] w fun e w' => e = .returned (.tuple #[.string (chosenF n L s).1, .bool (chosenF n L s).2.1, .int .i64 (chosenF n L s).2.2]) ∧ Below w.heap.size w w' := by
  have HV := Lib.hid h
  clear h
  cases hA : (gwalk n [] [] 0 L).1 with
  | none =>
    have HR : Hid (chosenF n L s = (⟨#[]⟩, false, 2)) := by rw [Hid]; unfold chosenF; rw [hA]
    have HA := Lib.hid hA
    clear hA
    rw [HR.out]
    go_enter Tryz.func17, Tryz.ntmps17
    go_wp2_with (go_at_call 33; refine (gather_none _ HV.out hn hl HA.out).mono ?_; rintro e w1 ⟨rfl, b1⟩; have B1 := Lib.hid b1; clear b1)
    go_returns
    exact ⟨rfl, B1.out⟩
  | some A =>
    obtain ⟨g1, g2, g3⟩ := gok hn hA
    have HA := Lib.hid hA
    have G1 := Lib.hid g1
    have G2 := Lib.hid g2
    have hal : A.length ≤ 1000 := by omega
    cases hs : (decide (s ≥ 0) && decide (s < 4096)) with
    | false =>
      have HR : Hid (chosenF n L s = (⟨#[]⟩, false, 3)) := by rw [Hid]; unfold chosenF; rw [hA, hs]; rfl
      rw [HR.out]
      clear hA g1 g2 g3
      go_enter Tryz.func17, Tryz.ntmps17
      go_wp2_with (first
        | (go_at_call 33; refine (gather_some _ HV.out hn hl HA.out).mono ?_; rintro e w1 ⟨b, rfl, m1, hb, b1⟩; have B1 := Lib.hid b1; have M1 := Lib.hid m1; clear b1 m1 hb)
        | (go_at_call 35; refine (isSlot_any _ _).mono ?_; rw [hs]; rintro e w2 ⟨rfl, rfl⟩))
      go_returns
      exact ⟨rfl, B1.out⟩
    | true =>
      have HR : Hid (chosenF n L s = (match pickV n A s with | some v => (v, true, 0) | none => (⟨#[]⟩, false, 0))) := by rw [Hid]; unfold chosenF; rw [hA, hs]; rfl
      clear hA g1 g2 g3
      go_enter Tryz.func17, Tryz.ntmps17
      go_upto_region 7 with (first
        | (go_at_call 33; refine (gather_some _ HV.out hn hl HA.out).mono ?_; rintro e w1 ⟨b, rfl, m1, hb, b1⟩; have B1 := Lib.hid b1; have M1 := Lib.hid m1; clear b1 m1 hb)
        | (go_at_call 35; refine (isSlot_any _ _).mono ?_; rw [hs]; rintro e w' ⟨rfl, rfl⟩)
        | (go_at_call 45; refine (picked_any n _ A _ M1.out hn G1.out.set G1.out.slot hal).mono ?_; rintro e w2 ⟨vo, out, dif, rfl, r2, p2, b2⟩; have B2 := Lib.hid (bchain B1.out b2); have R2 := Lib.hid r2.at; have P2 := Lib.hid p2; clear b2 p2 r2))
      obtain ⟨Ao, cap, rfl, hml, hcells⟩ := R2.out
      have HC := Lib.hid hcells
      clear hcells R2 M1 B1 HA HV
      go_wp2_with fail
      go_loopg [39] out.length (fun g c wr => ∃ i : Nat, i ≤ out.length ∧ g = out.length - i ∧ c = .int .i64 i ∧ (∀ j x, j < i → out[j]? = some x → ((x.1.val : Nat) : Int) ≠ s) ∧ Below w2.heap.size w2 wr)
      case atStart => exact ⟨0, by omega, rfl, rfl, fun j x hj => by omega, Below.refl _ _⟩
      case round =>
        obtain ⟨i, hi, rfl, rfl, hno, hB⟩ := hrel
        have HNO := Lib.hid hno
        have B3 := Lib.hid hB
        clear hno hB
        by_cases hlt : i < out.length
        · obtain ⟨b0, rfl, hb0, hcc⟩ := HC.out (by omega)
          obtain ⟨⟨xs, ⟨xr, xd⟩, xv⟩, hx⟩ : ∃ x, out[i]? = some x := ⟨_, List.getElem?_eq_getElem hlt⟩
          obtain ⟨q0, q1, q2, q3⟩ := hcc i _ hx
          have q0 := bcell B3.out q0
          have q1 := bcell B3.out q1
          have q2 := bcell B3.out q2
          have q3 := bcell B3.out q3
          simp only at q0 q1 q2 q3
          have HX := Lib.hid hx
          have HCC := Lib.hid hcc
          clear hx hcc
          cases he : (((xs.val : Nat) : Int) == s) with
          | true =>
            have hpv : pickV n A s = some xv := by
              have h1 := pok_val P2.out G2.out (List.mem_of_getElem? HX.out)
              simp only at h1
              rw [show s = ((xs.val : Nat) : Int) by have := eq_of_beq he; exact this.symm]
              exact h1
            have HR2 : Hid (chosenF n L s = (xv, true, 0)) := by rw [Hid, HR.out, hpv]
            clear hpv
            go_wp2_with fail
            go_returns
            exact ⟨by rw [HR2.out]; rfl, bchain (bchain B2.out B3.out) (box_below _ _)⟩
          | false =>
            go_wp2_with fail
            go_roundg (out.length - (i + 1))
            case measure => omega
            case rel =>
              refine ⟨i + 1, by omega, rfl, by go_num, fun j x hj hjx => ?_, bchain B3.out (box_below _ _)⟩
              by_cases e : j = i
              · subst e
                rw [HX.out] at hjx
                obtain rfl := Option.some.inj hjx
                intro h
                rw [Bool.eq_false_iff] at he
                exact he (by simpa using h)
              · exact HNO.out j x (by omega) hjx
        · have e : i = out.length := by omega
          subst e
          have hpv : pickV n A s = none := pok_no P2.out (fun x hx => by
            obtain ⟨j, hj⟩ := List.getElem?_of_mem hx
            exact HNO.out j x (List.getElem?_eq_some_iff.1 hj).1 hj)
          have HR2 : Hid (chosenF n L s = (⟨#[]⟩, false, 0)) := by rw [Hid, HR.out, hpv]
          clear hpv
          go_wp2_with fail
          go_returns
          exact ⟨by rw [HR2.out]; rfl, bchain B2.out B3.out⟩
end Go.Proofs.YthkdmpalhdifbaaGreatDoor
