/- slices.Delete of one vote. -/
import Derived.Test.YthkdmpalhdifbaaDoorChoX
import Derived.Deep.RegionLaw
import Derived.Lib.SliceRun
import Derived.Laws.IdiomCopy
import Derived.Deep.Upon
set_option linter.unusedVariables false
set_option linter.unusedSimpArgs false
namespace Go.Proofs.YthkdmpalhdifbaaDoor
open Go.RowKit Go.Maps Go.Shelf Go.Lib

/-- The block g holds the votes L, none frozen. -/
structure VtB (w : World) (g : Nat) (L : List Vt) : Prop where
  lt : g < w.heap.size
  cells : ∀ t u, (flat encVt L)[t]? = some u → w.cell? ⟨g, t, none⟩ = some u
  free : ∀ t, w.frozen? ⟨g, t, none⟩ = false
theorem vlen (L : List Vt) : (flat encVt L).length = L.length * 5 := flat_length (enc := encVt) (k := 5) (fun x => rfl) L
theorem VtB.below {w w' : World} {g : Nat} {L : List Vt} (h : VtB w g L) (hb : Below w.heap.size w w') : VtB w' g L := by
  have e := hb.block g h.lt
  refine ⟨Nat.lt_of_lt_of_le h.lt hb.size, fun t u hu => bcell hb (h.cells t u hu), fun t => ?_⟩
  rw [← h.free t]
  simp only [World.frozen?, e]
theorem VtB.at {w : World} {g : Nat} {L : List Vt} (h : VtB w g L) {cap : Nat} (h1 : L.length ≤ cap) (h2 : cap ≤ maxLen) : VotesIn w (.slice (some ⟨g, 0, none⟩) L.length cap) L := by
  refine ⟨_, cap, rfl, h1, h2, fun h0 => ⟨g, 0, rfl, h.lt, fun i x hx => ?_⟩⟩
  have hc : ∀ j, j < 5 → ∀ u, (encVt x)[j]? = some u → w.cell? ⟨g, i * 5 + j, none⟩ = some u := fun j hj u hu => by
    refine h.cells _ _ ?_
    rw [flat_at (enc := encVt) (k := 5) (fun x => rfl) L i x hx j hj]
    exact hu
  simp only [Nat.zero_add]
  exact ⟨hc 0 (by omega) _ rfl, hc 1 (by omega) _ rfl, hc 2 (by omega) _ rfl, hc 3 (by omega) _ rfl, hc 4 (by omega) _ rfl⟩
theorem VtB.of_row {w : World} {lo : Nat} {v : Value} {L : List Vt} (h : VtRow w lo v L) (h0 : 0 < L.length) : ∃ g cap, v = .slice (some ⟨g, 0, none⟩) L.length cap ∧ L.length ≤ cap ∧ cap ≤ maxLen ∧ lo ≤ g ∧ VtB w g L := by
  rcases h.2 with ⟨_, hn⟩ | ⟨g, cap, cur, rfl, hb, hg, hle, hcap, hsz, htake⟩
  · omega
  · have hB : Blk w g 25 cur := hg
    refine ⟨g, cap, rfl, hle, hcap, hb, hB.lt, fun t u hu => hB.cell ?_, fun t => hB.frozen t⟩
    have hl : t < L.length * 5 := by have := (List.getElem?_eq_some_iff.1 hu).1; rwa [vlen] at this
    rw [← htake, List.getElem?_take, if_pos hl] at hu
    rw [← Array.getElem?_toList]
    exact hu
theorem flat_erase : ∀ (L : List Vt) (i : Nat), i < L.length → flat encVt (L.eraseIdx i) = (flat encVt L).take (i * 5) ++ flat encVt (L.drop (i + 1))
  | x :: r, 0, _ => by simp [flat]
  | x :: r, i + 1, h => by
    have ih := flat_erase r i (by simpa using h)
    have e : flat encVt (x :: r) = encVt x ++ flat encVt r := rfl
    have e2 : flat encVt ((x :: r).eraseIdx (i + 1)) = encVt x ++ flat encVt (r.eraseIdx i) := rfl
    rw [e2, ih, e, List.take_append, show (i + 1) * 5 - (encVt x).length = i * 5 by simp [encVt]; omega, List.take_of_length_le (show (encVt x).length ≤ (i + 1) * 5 by simp [encVt]; omega), List.append_assoc]
    rfl
theorem flat_drop (L : List Vt) : ∀ (i : Nat), flat encVt (L.drop i) = (flat encVt L).drop (i * 5) := by
  induction L with
  | nil => intro i; simp [flat]
  | cons x r ih =>
    intro i
    cases i with
    | zero => simp
    | succ i =>
      have e : flat encVt (x :: r) = encVt x ++ flat encVt r := rfl
      rw [List.drop_succ_cons, ih, e, List.drop_append, List.drop_eq_nil_of_le (show (encVt x).length ≤ (i + 1) * 5 by simp [encVt]; omega), show (i + 1) * 5 - (encVt x).length = i * 5 by simp [encVt]; omega]
      rfl
abbrev zVt : Vt := ⟨0, 0, 0, 0, ⟨#[]⟩⟩
theorem zeroVt (w : World) : (zeroValue 25).run Tryd.prog w = .ok (vtV zVt) w := by kernel_rfl
theorem run_clear_vote (w : World) (ty : TypeId) (b o c : Nat) (hc : ∀ j, j < 5 → (w.cell? ⟨b, o + j, none⟩).isSome = true) (hf : ∀ j, j < 5 → w.frozen? ⟨b, o + j, none⟩ = false) :
    (Builtin.clear_ #[34] ty #[.slice (some ⟨b, o, none⟩) 1 c]).run Tryd.prog w = .ok (.tuple #[]) (w.setCells b o (encVt zVt)) := by
  have hst := run_storeCells_cells (P := Tryd.prog) b o (encVt zVt) 0 w (by simpa [encVt] using hc) (by simpa [encVt] using hf) (by intro v hv; simp [encVt] at hv; rcases hv with rfl | rfl | rfl <;> rfl)
  simp only [Nat.add_zero] at hst
  have hz : (Builtin.zeroCells (vtV zVt).cells 1).toList = encVt zVt := by kernel_rfl
  simp [Builtin.clear_, run_underlying Tryd.underlying34, zeroVt, hz, hst]
theorem setCells_size (g o : Nat) (vs : List Value) (w : World) : (w.setCells g o vs).heap.size = w.heap.size := by
  induction vs generalizing o w with
  | nil => rfl
  | cons v r ih => rw [World.setCells, ih]; simp [World.setCell]
theorem fr_setCells (g o : Nat) (vs : List Value) (w : World) : Fr (S1 g) w (w.setCells g o vs) := by
  induction vs generalizing o w with
  | nil => exact Fr.refl _ _
  | cons v r ih =>
    rw [World.setCells]
    exact ((Fr.refl (S1 g) w).setCell (p := ⟨g, o, none⟩) (.inl rfl) v).trans (ih _ _)

set_option maxRecDepth 100000 in
set_option maxHeartbeats 4000000 in
theorem delete_any (g cap i : Nat) (L : List Vt) (w : World) (hB : VtB w g L) (hcap : L.length ≤ cap) (hm : cap ≤ maxLen) (hi : i < L.length) :
    Calls Tryd.prog 22 #[.slice (some ⟨g, 0, none⟩) L.length cap, .int .i64 i, .int .i64 ((i : Int) + 1)] w fun e w' =>
      e = .returned (.slice (some ⟨g, 0, none⟩) (L.length - 1) cap) ∧ VtB w' g (L.eraseIdx i) ∧ Fr (S1 g) w w' := by
  obtain ⟨i0, hi0, hz0, hz1, hz2⟩ := info_parts info_vt
  have hcell := hB.cells
  have hlt := hB.lt
  obtain ⟨n, hn⟩ : ∃ n, n = L.length := ⟨_, rfl⟩
  obtain ⟨news, hnews⟩ : ∃ news, news = flat encVt (L.drop (i + 1)) := ⟨_, rfl⟩
  have hlen : news.length = (n - (i + 1)) * 5 := by rw [hnews, vlen, List.length_drop, hn]
  have hget : ∀ t, news[t]? = (flat encVt L)[(i + 1) * 5 + t]? := fun t => by rw [hnews, flat_drop, List.getElem?_drop]
  have hsome : ∀ (W : World), (∀ a, W.cell? a = w.cell? a) → ∀ t, t < n * 5 → (W.cell? ⟨g, t, none⟩).isSome = true := fun W hW t ht => by
    rw [hW, hcell t _ (List.getElem?_eq_getElem (by rw [vlen, ← hn]; exact ht))]; rfl
  obtain ⟨A, hA, hsrc⟩ : ∃ A : Addr, (if cap = i + 1 then some (⟨g, 0, none⟩ : Addr) else some ⟨g, (i + 1) * 5, none⟩) = some A ∧ Hid (∀ t u, news[t]? = some u → w.drew.cell? (A.add t) = some u) := by
    by_cases h : cap = i + 1
    · refine ⟨⟨g, 0, none⟩, by simp [h], fun t u hu => ?_⟩
      have h0 : news.length = 0 := by rw [hlen]; omega
      rw [List.length_eq_zero_iff.1 h0] at hu
      simp at hu
    · refine ⟨⟨g, (i + 1) * 5, none⟩, by simp [h], fun t u hu => ?_⟩
      rw [hget t] at hu
      rw [Addr.add_lit]
      exact hcell _ _ hu
  have s1 : Hid (news.length = (n - (i + 1)) * 5) := hlen
  have s2 : Hid (∀ u ∈ news, u.oneCell' = true) := by
    intro u hu
    rw [hnews] at hu
    obtain ⟨x, _, hx⟩ := List.mem_flatMap.1 hu
    simp [encVt] at hx
    rcases hx with rfl | rfl | rfl | rfl | rfl <;> rfl
  have s3 : Hid (∀ t, t < news.length → (w.drew.cell? ⟨g, 0 + i * 5 + t, none⟩).isSome = true ∧ w.drew.frozen? ⟨g, 0 + i * 5 + t, none⟩ = false) := by
    intro t ht
    rw [hlen] at ht
    exact ⟨hsome w.drew (fun _ => rfl) _ (by omega), hB.free _⟩
  obtain ⟨W1, hW1⟩ : ∃ W1, W1 = w.drew.setCells g (0 + i * 5) news := ⟨_, rfl⟩
  have f1 : Fr (S1 g) w W1 := by rw [hW1]; exact (fr_setCells g _ news w.drew).of_drew
  have c1 : ∀ t, t < (n - 1) * 5 → ∀ u, (flat encVt (L.eraseIdx i))[t]? = some u → W1.cell? ⟨g, t, none⟩ = some u := by
    intro t ht u hu
    rw [flat_erase L i hi, List.getElem?_append, List.length_take, vlen, ← hn, Nat.min_eq_left (by omega)] at hu
    by_cases hc : t < i * 5
    · rw [if_pos hc, List.getElem?_take, if_pos hc] at hu
      rw [hW1, World.cell?_setCells_out g news (0 + i * 5) _ _ (fun _ _ => .inl (by simpa using hc))]
      exact hcell _ _ hu
    · rw [if_neg hc, ← hnews] at hu
      obtain ⟨hlt, hv⟩ := List.getElem?_eq_some_iff.1 hu
      have := World.cell?_setCells_in g news (0 + i * 5) w.drew (fun j hj => (s3.out j hj).1) (t - i * 5) hlt
      rw [← hW1, show 0 + i * 5 + (t - i * 5) = t by omega, hv] at this
      exact this
  have fz1 : ∀ t, W1.frozen? ⟨g, t, none⟩ = false := fun t => by rw [hW1, World.frozen?_setCells]; exact hB.free t
  have is1 : ∀ t, t < n * 5 → (W1.cell? ⟨g, t, none⟩).isSome = true := fun t ht => by
    rw [hW1]
    by_cases hc : t < i * 5 ∨ i * 5 + news.length ≤ t
    · rw [World.cell?_setCells_out g news (0 + i * 5) _ _ (fun _ _ => by simp; omega)]
      exact hsome w.drew (fun _ => rfl) _ ht
    · have := World.cell?_setCells_in g news (0 + i * 5) w.drew (fun j hj => (s3.out j hj).1) (t - i * 5) (by omega)
      rw [show 0 + i * 5 + (t - i * 5) = t by omega] at this
      rw [this]; rfl
  have hcl := fun ty => run_clear_vote W1 ty g ((n - 1) * 5) (cap - (n - 1)) (fun j hj => is1 _ (by omega)) (fun j hj => fz1 _)
  have hle : n - 1 ≤ cap := by omega
  have hic : i ≤ cap := by omega
  have hjc : i + 1 ≤ cap := by omega
  have hpa : (0 : Int) ≤ (i : Int) + 1 := by omega
  have hpb : (i : Int) + 1 ≤ (n : Int) := by omega
  have mixed : Tryd.prog.follows .mixedOrders = true := by kernel_rfl
  have F1 := Lib.hid f1
  have C1 := Lib.hid c1
  have FZ1 := Lib.hid fz1
  have IS1 := Lib.hid is1
  have hW : Hid (W1 = w.drew.setCells g (0 + i * 5) news) := hW1
  have hml : cap ≤ 9223372036854775807 := by unfold maxLen at hm; omega
  have hin : i < n := by omega
  have HN := Lib.hid hn
  rw [← hn]
  have hB2 := hB
  have hcap2 : n ≤ cap := by omega
  have e1 : i + (n - (i + 1)) = n - 1 := by omega
  have e2 : n - (n - 1) = 1 := by omega
  clear hn hcap hi hcell hlen hget hsome hnews hW1 f1 c1 fz1 is1 hm hB hB2
  go_enter Tryd.func22, Tryd.ntmps22
  go_wp2_with fail
  go_region_law_o (refine step_append_room rfl (.tmp 22) (.tmp 25) 34 rfl 25 i0 5 Tryd.underlying34 hi0 hz1 g 0 i cap (by simp [Act.eval, Act.put]) A (n - (i + 1)) (cap - (i + 1)) news (by simp [Act.eval, Act.put]) s1.out hsrc.out s2.out (by omega) s3.out ?_; rw [← hW.out])
  go_wp2_with fail
  go_returns
  have f2 := fr_setCells g ((n - 1) * 5) (encVt zVt) W1
  have hl2 : (L.eraseIdx i).length = n - 1 := by rw [List.length_eraseIdx, if_pos (by rw [← HN.out]; exact hin), ← HN.out]
  refine ⟨rfl, ⟨?_, fun t u hu => ?_, fun t => ?_⟩, F1.out.trans f2⟩
  · rw [setCells_size]; exact Nat.lt_of_lt_of_le hlt F1.out.size
  · have ht : t < (n - 1) * 5 := by have := (List.getElem?_eq_some_iff.1 hu).1; rwa [vlen, hl2] at this
    rw [World.cell?_setCells_out g _ _ _ _ (fun _ _ => .inl (by simpa using ht))]
    exact C1.out t ht u hu
  · rw [World.frozen?_setCells]; exact FZ1.out t
end Go.Proofs.YthkdmpalhdifbaaDoor
