/- slices.Clone of votes. -/
import Derived.Test.YthkdmpalhdifbaaGreatDoorChoYB
set_option linter.unusedVariables false
set_option linter.unusedSimpArgs false
namespace Go.Proofs.YthkdmpalhdifbaaGreatDoor
open Go.RowKit Go.Maps Go.Shelf Go.Sort

theorem flat_get (L : List Vt) {t : Nat} {u : Value} (h : (flat encVt L)[t]? = some u) : ∃ x, L[t / 5]? = some x ∧ (encVt x)[t % 5]? = some u := by
  have hl : t < L.length * 5 := by
    have := (List.getElem?_eq_some_iff.1 h).1
    rwa [flat_length (enc := encVt) (k := 5) (fun x => rfl)] at this
  have hi : t / 5 < L.length := by omega
  refine ⟨L[t / 5], List.getElem?_eq_getElem hi, ?_⟩
  have := flat_at (enc := encVt) (k := 5) (fun x => rfl) L (t / 5) _ (List.getElem?_eq_getElem hi) (t % 5) (by omega)
  rw [show t / 5 * 5 + t % 5 = t by omega, h] at this
  exact this.symm
theorem VotesIn.flat {w : World} {A : Option Addr} {cap : Nat} {L : List Vt} (h : VotesIn w (.slice A L.length cap) L) (h0 : 0 < L.length) :
    ∃ b off, A = some ⟨b, off, none⟩ ∧ b < w.heap.size ∧ ∀ t u, (flat encVt L)[t]? = some u → w.cell? ⟨b, off + t, none⟩ = some u := by
  obtain ⟨A', cap', e, _, _, h4⟩ := h
  cases e
  obtain ⟨b, off, rfl, hb, hc⟩ := h4 h0
  refine ⟨b, off, rfl, hb, fun t u hu => ?_⟩
  obtain ⟨x, hx, hj⟩ := flat_get L hu
  obtain ⟨q0, q1, q2, q3, q4⟩ := hc _ x hx
  have ht : t = t / 5 * 5 + t % 5 := by omega
  have h5 : t % 5 < 5 := Nat.mod_lt _ (by decide)
  rw [ht, ← Nat.add_assoc]
  generalize t % 5 = j at *
  match j, h5, hj with
  | 0, _, hj => cases hj; exact q0
  | 1, _, hj => cases hj; exact q1
  | 2, _, hj => cases hj; exact q2
  | 3, _, hj => cases hj; exact q3
  | 4, _, hj => cases hj; exact q4
theorem enc_one (L : List Vt) : ∀ u ∈ flat encVt L, u.oneCell' = true := fun u hu => by
  obtain ⟨x, _, hx⟩ := List.mem_flatMap.1 hu
  simp [encVt] at hx
  rcases hx with rfl | rfl | rfl | rfl | rfl <;> rfl
set_option maxRecDepth 100000 in
set_option maxHeartbeats 2000000 in
theorem clone_any (v : Value) (L : List Vt) (w : World) (h : VotesIn w v L) (hl : L.length ≤ 1000) :
    Calls Tryz.prog 14 #[v] w fun e w' => ∃ vo, e = .returned vo ∧ VtRow w' w.heap.size vo L ∧ Below w.heap.size w w' := by
  obtain ⟨i0, hi, hz0, hz1, hz2⟩ := info_parts info_vt
  have HI := Lib.hid hi
  have HZ0 := Lib.hid hz0
  have HZ1 := Lib.hid hz1
  have HZ2 := Lib.hid hz2
  clear hi hz0 hz1 hz2
  obtain ⟨A0, cap0, rfl, hcap0, hmax0, hcells⟩ := h
  have hq : ∀ (w : World) (a : Option Addr) (n c n' c' : Nat), (binOp .eql 22 (.slice a n c) (.slice none n' c')).run Tryz.prog w = .ok (.bool a.isNone) w := fun w a n c n' c' => Lib.run_eql_slice_nil w _ _ a n c n' c' Tryz.underlying22
  cases A0 with
  | none =>
    have hL : L = [] := by
      cases L with
      | nil => rfl
      | cons x r =>
        obtain ⟨b, off, e, _⟩ := hcells (by simp)
        cases e
    subst hL
    clear hcells
    go_enter Tryz.func14, Tryz.ntmps14
    go_wp2_with fail
    go_returns
    exact ⟨_, rfl, ⟨rfl, .inl ⟨rfl, rfl⟩⟩, Below.refl _ _⟩
  | some a =>
    have hfl : Hid (∀ j u, (flat encVt L)[j]? = some u → w.cell? (a.add j) = some u) := fun j u hu => by
      have h0 : 0 < L.length := by
        cases L with
        | nil => simp [flat] at hu
        | cons x r => simp
      have hV : VotesIn w (.slice (some a) L.length cap0) L := ⟨_, _, rfl, hcap0, hmax0, hcells⟩
      obtain ⟨b, off, e, _, hc⟩ := hV.flat h0
      cases e
      rw [Addr.add_lit]
      exact hc j u hu
    have hfn : (flat encVt L).length = L.length * 5 := flat_length (enc := encVt) (k := 5) (fun x => rfl) L
    have HFN := Lib.hid hfn
    clear hcells hfn
    go_enter Tryz.func14, Tryz.ntmps14
    go_wp2_with (first
      | (at_builtin; refine wpList_append_own_at _ rfl _ _ 22 rfl w.heap.size 35 i0 (vtV ⟨0, 0, 0, 0, ⟨#[]⟩⟩) 5 48 Tryz.underlying22 HI.out HZ0.out HZ1.out HZ2.out rfl (by decide) _ 0 [] rfl (World.ownsRow_made w #[] 0 (Nat.le_refl _) (Nat.zero_le _) (by simp)) a L.length cap0 (flat encVt L) rfl HFN.out (fun j u hu => Lib.cell?_alloc_some _ (hfl.out j u hu)) (enc_one L) (by unfold maxLen; omega) (by omega) (by simp) ?_; intro v9 w9 hown' hgrow _ hoa; have HOWN := Lib.hid hown'; have HGR := Lib.hid hgrow; clear hown' hgrow hoa))
    go_returns
    refine ⟨_, rfl, by unfold VtRow; simpa using HOWN.out, ?_⟩
    have f9 : Fr (S1 w.heap.size) (w.alloc (.cells #[] 35)) w9 := Fr.of_grown HGR.out (fun i e => by cases e; rfl)
    exact Fr.upB (box_below w _) f9 (fun i e => by have e : i = w.heap.size := e; omega)
theorem votesIn_row {w : World} {lo : Nat} {T : TypeId} {v : Value} {L : List Vt} (h : w.ownsRow lo T 5 v L.length (flat encVt L)) : VotesIn w v L := by
  rcases h.2 with ⟨rfl, hn⟩ | ⟨g, cap, cur, rfl, hb, hg, hle, hcap, hsz, htake⟩
  · exact ⟨none, 0, by rw [hn], by omega, by unfold maxLen; omega, fun h0 => by omega⟩
  · refine ⟨_, cap, rfl, hle, hcap, fun h0 => ⟨g, 0, rfl, (Array.getElem?_eq_some_iff.1 hg).1, fun i x hx => ?_⟩⟩
    have hB : Blk w g T cur := hg
    have hil : i < L.length := (List.getElem?_eq_some_iff.1 hx).1
    have hc : ∀ j, j < 5 → ∀ u, (encVt x)[j]? = some u → w.cell? ⟨g, i * 5 + j, none⟩ = some u := fun j hj u hu => by
      refine hB.cell ?_
      have h1 := flat_at (enc := encVt) (k := 5) (fun x => rfl) L i x hx j hj
      rw [hu, ← htake, List.getElem?_take, if_pos (by omega)] at h1
      rw [← Array.getElem?_toList]
      exact h1
    simp only [Nat.zero_add]
    exact ⟨hc 0 (by omega) _ rfl, hc 1 (by omega) _ rfl, hc 2 (by omega) _ rfl, hc 3 (by omega) _ rfl, hc 4 (by omega) _ rfl⟩
end Go.Proofs.YthkdmpalhdifbaaGreatDoor
