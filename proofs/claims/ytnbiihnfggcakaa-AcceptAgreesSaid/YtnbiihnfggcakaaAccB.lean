/- Package accept: List. -/
import Derived.Test.YtnbiihnfggcakaaAccA
import Derived.Test.YtnbiihnfggcakaaRowsE
import Derived.Test.YtnbiihnfggcakaaSrowE
import Derived.Deep.DeepMust
set_option linter.unusedVariables false
set_option linter.unusedSimpArgs false
namespace Go.Proofs.Ytnbiihnfggcakaa
open Go.RowKit Go.Maps Go.Shelf

def entCells (p : Int × Ent) : List Value := [.int .i64 p.1, .int .i64 p.2.1, .int .i64 p.2.2.1, .string p.2.2.2]
def cellsE (L : EL) : List Value := L.flatMap entCells
theorem cellsE_length (L : EL) : (cellsE L).length = L.length * 4 := by
  induction L with
  | nil => rfl
  | cons x r ih => simp only [cellsE, List.flatMap_cons, List.length_append, List.length_cons] at ih ⊢; rw [ih]; simp [entCells]; omega
theorem cellsE_append (L M : EL) : cellsE (L ++ M) = cellsE L ++ cellsE M := by simp [cellsE]
theorem cellsE_at : ∀ (L : EL) (i : Nat) (p : Int × Ent), L[i]? = some p → ∀ j u, (entCells p)[j]? = some u → (cellsE L)[i * 4 + j]? = some u
  | [], i, p, h, j, u, hu => by simp at h
  | x :: r, 0, p, h, j, u, hu => by
    simp at h
    subst h
    have hj : j < 4 := (List.getElem?_eq_some_iff.1 hu).1
    simp only [cellsE, List.flatMap_cons]
    rw [List.getElem?_append_left (by simp [entCells]; omega)]
    simpa using hu
  | x :: r, i + 1, p, h, j, u, hu => by
    have ih := cellsE_at r i p (by simpa using h) j u hu
    simp only [cellsE, List.flatMap_cons]
    rw [List.getElem?_append_right (by simp [entCells]; omega)]
    rw [show (i + 1) * 4 + j - (entCells x).length = i * 4 + j by simp [entCells]; omega]
    exact ih

/-- The slice v is the entries L, in a block of the call's own from lo on (or nil). -/
def EntRow (w : World) (lo : Nat) (v : Value) (L : EL) : Prop := w.ownsRow lo 43 4 v L.length (cellsE L)
namespace EntRow
variable {w w' : World} {lo lo' : Nat} {v : Value} {L : EL}
theorem nil (w : World) (lo : Nat) : EntRow w lo (.slice none 0 0) [] := World.ownsRow_nil _ _ _ _
theorem lower (h : EntRow w lo v L) (hb : lo' ≤ lo) : EntRow w lo' v L := row_lower h hb
theorem fr {S : Nat → Prop} (h : EntRow w lo v L) (k : Fr S w w') (hS : ∀ i, S i → i < lo) : EntRow w' lo v L :=
  row_fr h k fun g hg hs => by have := (h.lt g hg).1; have := hS g hs; omega
theorem below (h : EntRow w lo v L) (k : Below w.heap.size w w') : EntRow w' lo v L := h.fr (Fr.of_below k : Fr S0 w w') (fun i h => h.elim)
/-- What the slice is, and its cells. -/
theorem view (h : EntRow w lo v L) : ∃ (A : Option Addr) (cap : Nat), v = .slice A L.length cap ∧ L.length ≤ cap ∧
    (0 < L.length → ∃ g, A = some ⟨g, 0, none⟩ ∧ lo ≤ g ∧ g < w.heap.size ∧ ∀ i s e, L[i]? = some (s, e) →
      w.cell? ⟨g, i * 4, none⟩ = some (.int .i64 s) ∧ w.cell? ⟨g, i * 4 + 1, none⟩ = some (.int .i64 e.1) ∧ w.cell? ⟨g, i * 4 + 2, none⟩ = some (.int .i64 e.2.1) ∧ w.cell? ⟨g, i * 4 + 3, none⟩ = some (.string e.2.2)) := by
  obtain ⟨A, cap, hv, hle, _, _, _, hc⟩ := row_view h
  refine ⟨A, cap, hv, hle, fun h0 => ?_⟩
  obtain ⟨g, hA, h1, h2, h3⟩ := hc h0
  refine ⟨g, hA, h1, h2, fun i s e hi => ?_⟩
  have := cellsE_at L i (s, e) hi
  exact ⟨h3 _ _ (this 0 _ rfl), h3 _ _ (this 1 _ rfl), h3 _ _ (this 2 _ rfl), h3 _ _ (this 3 _ rfl)⟩
end EntRow

def listL (k : Int) (L : EL) : EL := L.filter fun p => decide (k ≤ p.1)
theorem keys_encF {β : Type} (f : Int → β → Value) (L : List (Int × β)) : keys (encF f L) = keys L := by simp [keys, encF]

theorem filter_lt_sorted (k : Int) : ∀ {L : EL}, Srt L → L.filter (fun p => decide (k ≤ p.1)) = L.drop ((keys L).countP (fun x => decide (x < k)))
  | [], _ => rfl
  | x :: r, h => by
    have h1 := List.pairwise_cons.1 h
    by_cases hx : x.1 < k
    · have : ¬ k ≤ x.1 := by omega
      simp only [keys, List.map_cons, List.countP_cons, hx, decide_true, if_true, List.drop_succ_cons, List.filter_cons, this, decide_false, Bool.false_eq_true, if_false]
      exact filter_lt_sorted k h1.2
    · have hge : k ≤ x.1 := by omega
      have hz : (keys (x :: r)).countP (fun y => decide (y < k)) = 0 := by
        rw [List.countP_eq_zero]
        intro y hy
        simp only [keys, List.map_cons, List.mem_cons, List.mem_map] at hy
        rcases hy with rfl | ⟨q, hq, rfl⟩
        · simpa using hge
        · have := h1.1 q hq; simp; omega
      rw [hz, List.drop_zero, List.filter_eq_self]
      intro q hq
      rcases List.mem_cons.1 hq with rfl | hq
      · simpa using hge
      · have := h1.1 q hq; simp; omega

theorem info_ent : (Try.prog.info? 43).map (fun i => (i.zero, i.size, i.bytes)) = some (some (entV 0 (0, 0, ⟨#[]⟩)), 4, 40) := by kernel_rfl

theorem srt_encF {β : Type} {f : Int → β → Value} {L : List (Int × β)} (h : Srt (encF f L)) : Srt L := by
  unfold Srt encF at *
  simpa [List.pairwise_map] using h

theorem reads_new (w : World) (T : TypeId) (xs : List Value) (n size : Nat) (hl : xs.length = n * size) : Reads (w.alloc (.cells xs.toArray T)) size (some ⟨w.heap.size, 0, none⟩) n xs :=
  ⟨hl, fun _ => ⟨_, rfl, fun j u hu => by rw [add_zero_spot]; exact (Blk.new _ _ _).cell (by simpa using hu)⟩⟩
theorem entCells_one (p : Int × Ent) : ∀ u ∈ entCells p, u.oneCell' := by
  intro u hu
  simp only [entCells, List.mem_cons, List.not_mem_nil, or_false] at hu
  rcases hu with rfl | rfl | rfl | rfl <;> simp [Value.oneCell']

/-- slices.BinarySearch of a sorted row. -/
theorem bsearch (lo : Nat) (v : Value) (xs : List Int) (x : Int) (w : World) (h : IntRow w lo v xs) (hs : xs.Pairwise (· < ·)) (hl : xs.length ≤ 1000000000) :
    Calls Try.prog 41 #[v, .int .i64 x] w fun e w' => ∃ b, e = .returned (.tuple #[.int .i64 (xs.countP (fun y => decide (y < x)) : Nat), .bool b]) ∧ ∃ q, w' = w.drewN q := by
  obtain ⟨A, cap, rfl, hle, hc⟩ := h.view
  by_cases h0 : 0 < xs.length
  · obtain ⟨g, rfl, _, _, hcell⟩ := hc h0
    refine (Try.slices_BinarySearch_int g 0 xs.length cap xs x w (Nat.le_refl _) (by omega) (fun j hj => ?_) ?_).mono ?_
    · rw [Nat.zero_add]
      refine hcell j _ ?_
      rw [List.getD_eq_getElem?_getD, List.getElem?_eq_getElem hj]
      rfl
    · rw [List.take_length]
      exact hs.imp fun h => by omega
    · rintro e w' ⟨rfl, q, rfl⟩
      rw [List.take_length]
      exact ⟨_, rfl, q, rfl⟩
  · have hx : xs = [] := List.length_eq_zero_iff.1 (by omega)
    subst hx
    refine (Try.slices_BinarySearch_int_empty A cap x w).mono ?_
    rintro e w' ⟨rfl, rfl⟩
    exact ⟨false, rfl, 0, rfl⟩

set_option maxHeartbeats 2000000 in
theorem list_any (p m : Nat) (n r d base k : Int) (L : EL) (w : World) (h : AccAt w p m n r d base L) (hn : 0 < n) (hl : L.length ≤ 100000) (hin : ∀ p ∈ L, -9223372036854775808 ≤ p.1 ∧ p.1 ≤ 9223372036854775807) :
    Calls Try.prog 16 #[.pointer (some ⟨p, 0, none⟩), .int .i64 k] w fun e w' => ∃ v, e = .returned v ∧ EntRow w' w.heap.size v (listL k L) ∧ Below w.heap.size w w' := by
  have c0 := h.c0
  have c3 := h.c3
  have hlt := h.lt
  have hsrt : Srt L := by
    have := h.map.srt (int_keyed Try.underlying3)
    exact srt_encF this
  have HT := Lib.hid h
  have HS := Lib.hid hsrt
  have HIN := Lib.hid hin
  clear h hsrt hin
  go_enter Try.func16, Try.ntmps16
  go_wp2_with (first
    | (go_at_call 38; refine (avalid p n _ c0 hn).mono ?_; rintro e w' ⟨rfl, rfl⟩)
    | (go_at_call 40; refine (mkeys _ _).mono ?_; rintro e w' ⟨rfl, rfl⟩)
    | (go_at_call 39; refine (msorted m _ (encF entV L) _ (by simp) (by simp [go_sem]) (HT.out.alloc _).map (by rw [encF_length]; omega)).mono ?_; rintro e w2 ⟨v, rfl, hr2, hb2⟩))
  rw [keys_encF] at hr2
  have hB2 : Below w.heap.size w w2 := (box_below _ _).trans (hb2.mono (by simp))
  have hr3 := hr2.lower (lo' := w.heap.size) (by simp)
  have hks := keys_sorted HS.out
  have hkl : (keys L).length = L.length := by simp [keys]
  have hcnt : (keys L).countP (fun x => decide (x < k)) ≤ L.length := by rw [← hkl]; exact List.countP_le_length
  have hfl := filter_lt_sorted k HS.out
  obtain ⟨f, hf⟩ : ∃ f, f = (keys L).countP (fun x => decide (x < k)) := ⟨_, rfl⟩
  rw [← hf] at hcnt hfl
  obtain ⟨A, cap, rfl, hle, hcells⟩ := hr3.view
  have HR := Lib.hid hr3
  have HK := Lib.hid hks
  have HB2 := Lib.hid hB2
  have HC := Lib.hid hcells
  have HFL := Lib.hid hfl
  have HF := Lib.hid hf
  have hN := hkl
  clear hr2 hr3 hks hb2 hB2 hcells hfl hf
  rw [hkl] at hle
  simp only [hkl]
  obtain ⟨i0, hi, hz0, hz1, hz2⟩ := info_parts info_ent
  have HI := Lib.hid hi
  have HZ0 := Lib.hid hz0
  have HZ1 := Lib.hid hz1
  have HZ2 := Lib.hid hz2
  clear hi hz0 hz1 hz2
  have hnl : (listL k L).length = L.length - f := by unfold listL; rw [HFL.out]; simp
  have HNL := Lib.hid hnl
  clear hnl
  by_cases hfN : f < L.length
  · obtain ⟨g, rfl, hg1, hg2, hg3⟩ := HC.out (by omega)
    have HG := Lib.hid hg3
    have hcf : ¬ cap = f := by omega
    clear hg3
    go_wp2_with (first
      | (go_at_call 41; refine (bsearch w.heap.size _ (keys L) k _ (by have := HR.out; rwa [hkl] at this) HK.out (by omega)).mono ?_; rintro e w3 ⟨b, rfl, q, rfl⟩; rw [← HF.out]))
    go_loopw [8, 30] (fun v c wr => ∃ i : Nat, i ≤ L.length - f ∧ c = .int .i64 i ∧ wr.ownsRow w2.heap.size 43 4 v i (cellsE ((listL k L).take i)) ∧ Below w2.heap.size w2 wr)
      (fun _ c _ => L.length - (intOf c).toNat)
    case atStart => exact ⟨0, by omega, rfl, World.ownsRow_nil _ _ _ _, below_drewN (Below.refl _ _) _⟩
    case round =>
      obtain ⟨i, hi, rfl, hrow, hB⟩ := hrel
      have HROW := Lib.hid hrow
      clear hrow
      by_cases hlt : i < L.length - f
      · obtain ⟨⟨s, e⟩, hs⟩ : ∃ x, (listL k L)[i]? = some x := ⟨_, List.getElem?_eq_getElem (by have := HNL.out; omega)⟩
        have hs2 : L[f + i]? = some (s, e) := by
          have := hs
          unfold listL at this
          rw [HFL.out, List.getElem?_drop] at this
          exact this
        have hkx : (keys L)[f + i]? = some s := by simp [keys, hs2]
        have hq2 : get s (encF entV L) = some (entV s e) := by rw [get_encF, get_of_mem HS.out (List.mem_of_getElem? hs2)]; rfl
        have hcx := bcell hB (HG.out (f + i) s hkx)
        have hBw : Below w.heap.size w wr := HB2.out.trans (hB.mono HB2.out.size)
        have HT2 := HT.out.below hBw
        have d3 := HT2.c3
        have hwx : (Lit.int .i64 s).wf = true := wf64 (HIN.out _ (List.mem_of_getElem? hs2))
        have HM2 := Lib.hid HT2.map
        have HSn := Lib.hid (take_snoc hs)
        clear hs hs2 hkx HT2
        go_wp2_with (first
          | (at_lookup; refine wpList_look1 _ rfl _ _ 54 rfl 3 43 Try.underlying3 Try.underlying54 (entV 0 (0, 0, ⟨#[]⟩)) (zeroEnt _) m (encF entV L) rfl HM2.out s rfl hwx ?_)
          | (at_builtin; go_must (refine wpList_app rfl _ _ 32 rfl w2.heap.size 43 i0 (entV 0 (0, 0, ⟨#[]⟩)) 4 40 Try.underlying32 HI.out HZ0.out HZ1.out HZ2.out rfl (by decide) _ _ _ rfl (World.ownsRow.alloc HROW.out _) (some ⟨wr.heap.size, 0, none⟩) 1 1 (entCells (s, e)) rfl (by simp) (by omega) (reads_new _ _ (entCells (s, e)) 1 4 rfl) (entCells_one _) (by unfold maxLen; omega) (by omega) (by have := hB.size; simp; omega) ?_)))
        intro v' w4 hown hgrow _
        have hne1 : ∀ k', some k' = _ → w2.heap.size ≤ k' := fun k' hk' => (HROW.out.lt k' hk'.symm).1
        rw [show cellsE ((listL k L).take i) ++ entCells (s, e) = cellsE ((listL k L).take (i + 1)) by rw [HSn.out, cellsE_append]; simp [cellsE]] at hown
        have hB4 := (hB.alloc hB.size _).grown hgrow (by have := hB.size; simp; omega) (fun k' ek => by have := hne1 k' ek.symm; omega)
        go_wp2_with fail
        go_roundw
        case rel => exact ⟨i + 1, by omega, by go_num, hown, hB4⟩
        case measure => simp [intOf]; omega
      · have e : i = L.length - f := by omega
        subst e
        go_wp2_with fail
        go_returns
        have hrow := HROW.out
        rw [List.take_of_length_le (by rw [HNL.out]; exact Nat.le_refl _), ← HNL.out] at hrow
        exact ⟨_, rfl, row_lower hrow HB2.out.size, HB2.out.trans (hB.mono HB2.out.size)⟩
  · have hfe : L.length ≤ f := by omega
    have hnil : listL k L = [] := List.length_eq_zero_iff.1 (by rw [HNL.out]; omega)
    have HNI := Lib.hid hnil
    clear hnil
    have hcf : cap = f ∨ ¬ cap = f := by omega
    rcases hcf with hcf | hcf
    all_goals
      cases A
      all_goals
        go_wp2_with (first
          | (go_at_call 41; refine (bsearch w.heap.size _ (keys L) k _ (by have := HR.out; rwa [hkl] at this) HK.out (by omega)).mono ?_; rintro e w3 ⟨b, rfl, q, rfl⟩; rw [← HF.out]))
        go_loopw [8, 30] (fun v c wr => v = .slice none 0 0 ∧ c = .int .i64 0 ∧ Below w.heap.size w wr) (fun _ _ _ => 0)
        case atStart => exact ⟨rfl, rfl, below_drewN HB2.out _⟩
        case round =>
          obtain ⟨rfl, rfl, hB⟩ := hrel
          go_wp2_with fail
          go_returns
          exact ⟨_, rfl, by rw [HNI.out]; exact EntRow.nil _ _, hB⟩
end Go.Proofs.Ytnbiihnfggcakaa
