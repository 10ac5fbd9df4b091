/- Arguments: slices of steps, a step, a ballot by value; short; filled. -/
import Derived.Test.YtnbiihnfggcakaaAccF
import Derived.OpenShut
import Derived.ChangeSlices
import Derived.Deep.Slices
import Derived.Deep.Fields
import Derived.ChangeSame
set_option linter.unusedVariables false
set_option linter.unusedSimpArgs false
namespace Go.Proofs.Ytnbiihnfggcakaa
open Go.RowKit Go.Maps Go.Shelf Go.ChangeShapes Go.WideShapes Go.Deep

theorem add_flat (b off k : Nat) : (⟨b, off, none⟩ : Addr).add k = ⟨b, off + k, none⟩ := by
  unfold Addr.add
  by_cases h : k = 0 <;> simp [h]
theorem in64_wf {x : Int} (h : (Lit.int .i64 x).wf = true) : in64 x := by
  simp [Lit.wf, IntKind.min, IntKind.max, IntKind.signed, IntKind.bits] at h
  unfold in64
  omega

/-- A step: what to do, the ballot's round and node, the slot, the value. -/
abbrev Stp := Int × Int × Int × Int × ByteArray
def okStp (s : Stp) : Prop := in64 s.1 ∧ in64 s.2.1 ∧ in64 s.2.2.1 ∧ in64 s.2.2.2.1 ∧ s.2.2.2.2.size ≤ maxLen
abbrev stpCells (s : Stp) : List Value := [.int .i64 s.1, .int .i64 s.2.1, .int .i64 s.2.2.1, .int .i64 s.2.2.2.1, .string s.2.2.2.2]

/-- The value v is the slice of the steps L. -/
def StepsIn (w : World) (v : Value) (L : List Stp) : Prop :=
  ∃ A cap, v = .slice A L.length cap ∧ L.length ≤ cap ∧ cap ≤ maxLen ∧ (∀ s ∈ L, okStp s) ∧
    (0 < L.length → ∃ b off, A = some ⟨b, off, none⟩ ∧ b < w.heap.size ∧ ∀ i s, L[i]? = some s →
      w.cell? ⟨b, off + i * 5, none⟩ = some (.int .i64 s.1) ∧ w.cell? ⟨b, off + i * 5 + 1, none⟩ = some (.int .i64 s.2.1) ∧ w.cell? ⟨b, off + i * 5 + 2, none⟩ = some (.int .i64 s.2.2.1) ∧
      w.cell? ⟨b, off + i * 5 + 3, none⟩ = some (.int .i64 s.2.2.2.1) ∧ w.cell? ⟨b, off + i * 5 + 4, none⟩ = some (.string s.2.2.2.2))

section
variable {H : Type} {enc : TypeId × Value → H} {w : World} {base n : Nat} {spare : Nat → Bool} {held : Bool} {cs : List Value} {x : DataW H × List MemPlace}
set_option maxRecDepth 100000 in
theorem bal_open (ht : DataW.trod enc Try.prog w base spare held n 30 cs = some x) : ∃ r d, cs = [.int .i64 r, .int .i64 d] ∧ in64 r ∧ in64 d := by
  obtain ⟨ys, k, _, _, hlen, hyl, hf⟩ := DataW.trod_struct Try.underlying30 ht
  rw [show Try.prog.cellsOf 30 = 2 by kernel_rfl] at hlen
  have hyl : ys.length = 2 := hyl
  match cs, hlen with
  | [c0, c1], _ =>
    match ys, hyl with
    | [y0, y1], _ =>
      have h0 : DataW.trod enc Try.prog w base spare held k 3 [c0] = some y0 := hf 0 _ rfl
      have h1 : DataW.trod enc Try.prog w base spare held k 3 [c1] = some y1 := hf 1 _ rfl
      obtain ⟨z0, e0, _, w0⟩ := DataW.trod_int Try.underlying3 h0
      obtain ⟨z1, e1, _, w1⟩ := DataW.trod_int Try.underlying3 h1
      cases e0
      cases e1
      exact ⟨z0, z1, rfl, in64_wf w0, in64_wf w1⟩
set_option maxRecDepth 100000 in
theorem stp_open (ht : DataW.trod enc Try.prog w base spare held n 36 cs = some x) : ∃ s : Stp, cs = stpCells s ∧ okStp s := by
  obtain ⟨ys, k, _, _, hlen, hyl, hf⟩ := DataW.trod_struct Try.underlying36 ht
  rw [show Try.prog.cellsOf 36 = 5 by kernel_rfl] at hlen
  have hyl : ys.length = 4 := hyl
  match cs, hlen with
  | [c0, c1, c2, c3, c4], _ =>
    match ys, hyl with
    | [y0, y1, y2, y3], _ =>
      have h0 : DataW.trod enc Try.prog w base spare held k 3 [c0] = some y0 := hf 0 _ rfl
      have h1 : DataW.trod enc Try.prog w base spare held k 30 [c1, c2] = some y1 := hf 1 _ rfl
      have h2 : DataW.trod enc Try.prog w base spare held k 3 [c3] = some y2 := hf 2 _ rfl
      have h3 : DataW.trod enc Try.prog w base spare held k 9 [c4] = some y3 := hf 3 _ rfl
      obtain ⟨z0, e0, _, w0⟩ := DataW.trod_int Try.underlying3 h0
      obtain ⟨r, d, e1, w1, w1'⟩ := bal_open h1
      obtain ⟨z2, e2, _, w2⟩ := DataW.trod_int Try.underlying3 h2
      obtain ⟨s, e3, _, w3⟩ := DataW.trod_string Try.underlying9 h3
      cases e0
      cases e1
      cases e2
      cases e3
      exact ⟨(z0, r, d, z2, s), rfl, in64_wf w0, w1, w1', in64_wf w2, w3⟩
end

/-- A ballot by value. -/
theorem BalV.of_trod {H : Type} {enc : TypeId × Value → H} {w : World} {base : Nat} {spare : Nat → Bool} {held : Bool} {cs : Array Value} {d : DataW H} {p : List MemPlace}
    (h : DataW.Trod enc Try.prog w base spare held 30 (.agg cs) d p) : ∃ b : Int × Int, cs = #[.int .i64 b.1, .int .i64 b.2] ∧ in64 b.1 ∧ in64 b.2 := by
  obtain ⟨fuel, hf⟩ := h
  obtain ⟨r, d, e, h1, h2⟩ := bal_open hf
  refine ⟨(r, d), ?_, h1, h2⟩
  have e' : cs.toList = [.int .i64 r, .int .i64 d] := e
  obtain ⟨l⟩ := cs
  simp at e'
  rw [e']
/-- A step by value. -/
theorem StpV.of_trod {H : Type} {enc : TypeId × Value → H} {w : World} {base : Nat} {spare : Nat → Bool} {held : Bool} {cs : Array Value} {d : DataW H} {p : List MemPlace}
    (h : DataW.Trod enc Try.prog w base spare held 36 (.agg cs) d p) : ∃ s : Stp, cs = (stpCells s).toArray ∧ okStp s := by
  obtain ⟨fuel, hf⟩ := h
  obtain ⟨s, e, h1⟩ := stp_open hf
  refine ⟨s, ?_, h1⟩
  have e' : cs.toList = stpCells s := e
  obtain ⟨l⟩ := cs
  simp only at e'
  rw [e']

theorem StepsIn.of_trod {H : Type} {enc : TypeId × Value → H} {w : World} {base : Nat} {spare : Nat → Bool} {held : Bool} {a0 : Option Addr} {len0 cap0 : Nat} {d : DataW H} {p : List MemPlace}
    (h : DataW.Trod enc Try.prog w base spare held 22 (.slice a0 len0 cap0) d p) : ∃ L, StepsIn w (.slice a0 len0 cap0) L := by
  obtain ⟨fuel, hf⟩ := h
  rcases open_slice Try.underlying22 hf with ⟨hcs, _⟩ | ⟨a, len, cap, m, n, D, Pl, hcs, hb, hl, hm, hmm, _, hi⟩
  · simp [Value.cells] at hcs
    obtain ⟨rfl, rfl, rfl⟩ := hcs
    exact ⟨[], none, 0, rfl, Nat.le_refl _, Nat.zero_le _, fun s hs => by simp at hs, fun h => absurd h (by simp)⟩
  · simp [Value.cells] at hcs
    obtain ⟨rfl, rfl, rfl⟩ := hcs
    have hlm : len0 ≤ m := by rw [hmm]; split <;> omega
    have hall : ∀ i, i < len0 → ∃ s : Stp, okStp s ∧ ∀ j u, (stpCells s)[j]? = some u → w.cell? (a.add (i * 5 + j)) = some u := by
      intro i hi'
      obtain ⟨cs, hc, ht⟩ := hi i (by omega)
      rw [show Try.prog.cellsOf 36 = 5 by kernel_rfl] at hc
      obtain ⟨s, rfl, hs⟩ := stp_open ht
      obtain ⟨_, hl5, hcell⟩ := World.cells?_some hc
      refine ⟨s, hs, fun j u hu => ?_⟩
      have hj : j < 5 := (List.getElem?_eq_some_iff.1 hu).1
      rw [← add_of_add, hcell j hj]
      exact hu
    obtain ⟨f, hf1⟩ : ∃ f : Nat → Stp, ∀ i, i < len0 → okStp (f i) ∧ ∀ j u, (stpCells (f i))[j]? = some u → w.cell? (a.add (i * 5 + j)) = some u :=
      ⟨fun i => if h : i < len0 then Classical.choose (hall i h) else default, fun i hi => by simp only [dif_pos hi]; exact Classical.choose_spec (hall i hi)⟩
    have hlen : ((List.range len0).map f).length = len0 := by simp
    refine ⟨(List.range len0).map f, some a, cap0, by rw [hlen], by rw [hlen]; exact hl, hm, fun s hs => ?_, fun h0 => ?_⟩
    · simp only [List.mem_map, List.mem_range] at hs
      obtain ⟨i, hi', rfl⟩ := hs
      exact (hf1 i hi').1
    · rw [hlen] at h0
      obtain ⟨b, off, spot⟩ := a
      have h1 := (hf1 0 h0).2 0 _ rfl
      have hspot : spot = none := by simpa [Addr.add] using World.cell?_spot h1
      subst hspot
      obtain ⟨o, ho, _⟩ := cells_of_cell h1
      refine ⟨b, off, rfl, ?_, fun i s hx => ?_⟩
      · simpa [block_of_add] using (Array.getElem?_eq_some_iff.1 ho).1
      · have hi' : i < len0 := by have := (List.getElem?_eq_some_iff.1 hx).1; omega
        have e : f i = s := by
          simp only [List.getElem?_map, List.getElem?_range hi', Option.map_some] at hx
          exact Option.some.inj hx
        subst e
        have q := (hf1 i hi').2
        have q0 := q 0 _ rfl
        have q1 := q 1 _ rfl
        have q2 := q 2 _ rfl
        have q3 := q 3 _ rfl
        have q4 := q 4 _ rfl
        rw [add_flat] at q0 q1 q2 q3 q4
        exact ⟨q0, q1, q2, q3, q4⟩
theorem StepsIn.below {w w' : World} {v : Value} {L : List Stp} (h : StepsIn w v L) (hb : Below w.heap.size w w') : StepsIn w' v L := by
  obtain ⟨A, cap, h1, h2, h3, h4, h5⟩ := h
  refine ⟨A, cap, h1, h2, h3, h4, fun h0 => ?_⟩
  obtain ⟨b, off, k1, k2, k3⟩ := h5 h0
  refine ⟨b, off, k1, Nat.lt_of_lt_of_le k2 hb.size, fun i s hx => ?_⟩
  obtain ⟨q0, q1, q2, q3, q4⟩ := k3 i s hx
  exact ⟨bcell hb q0, bcell hb q1, bcell hb q2, bcell hb q3, bcell hb q4⟩

/-! ### short -/
def okLen (n : Nat) : Bool := decide (n ≤ 40) || decide (65536 < n)
def shortB (L : List Stp) : Bool := decide (L.length ≤ 80) && L.all fun s => okLen s.2.2.2.2.size

set_option maxHeartbeats 1000000 in
theorem short_any (v : Value) (L : List Stp) (w : World) (h : StepsIn w v L) :
    Calls Try.prog 12 #[v] w fun e w' => e = .returned (.bool (shortB L)) ∧ w = w' := by
  obtain ⟨A, cap, rfl, hle, hm, hin, hc⟩ := h
  have HC := Lib.hid hc
  have HIN := Lib.hid hin
  have hml : cap ≤ 9223372036854775807 := by unfold maxLen at hm; omega
  clear hc hin hm
  go_enter Try.func12, Try.ntmps12
  by_cases hl : L.length ≤ 80
  · have hl' : decide ((L.length : Int) > 80) = false := by simp; omega
    have HS : Hid (shortB L = L.all fun s => okLen s.2.2.2.2.size) := by simp [shortB, hl, Hid]
    go_wp2_with fail
    go_loop [3] (fun c => ∃ i : Nat, i ≤ L.length ∧ c = .int .i64 i ∧ ∀ s ∈ L.take i, okLen s.2.2.2.2.size = true) (fun c => L.length - (intOf c).toNat)
    case atStart => exact ⟨0, by omega, rfl, fun s hs => by simp at hs⟩
    case round =>
      obtain ⟨i, hi, rfl, hup⟩ := hrel
      have HUP := Lib.hid hup
      clear hup
      by_cases hlt : i < L.length
      · obtain ⟨b, off, rfl, hb, hcells⟩ := HC.out (by omega)
        obtain ⟨⟨x, r, d, k, s⟩, hs⟩ : ∃ s, L[i]? = some s := ⟨_, List.getElem?_eq_getElem hlt⟩
        obtain ⟨_, _, _, _, q4⟩ := hcells i _ hs
        simp only at q4
        have HSn := Lib.hid (take_snoc hs)
        have HX := Lib.hid hs
        have hsz := (HIN.out _ (List.mem_of_getElem? hs)).2.2.2.2
        simp only [maxLen] at hsz
        clear hcells hs
        by_cases h1 : s.size > 40
        · have h1' : decide ((s.size : Int) > 40) = true := by simp; omega
          by_cases h2 : s.size ≤ 65536
          · have h2' : decide ((s.size : Int) ≤ 65536) = true := by simp; omega
            have HF : Hid (shortB L = false) := by
              rw [Hid, HS.out, List.all_eq_false]
              refine ⟨_, List.mem_of_getElem? HX.out, ?_⟩
              simp only [okLen, Bool.or_eq_true, decide_eq_true_eq]
              omega
            clear h1 h2
            go_wp2_with fail
            go_returns
            rw [HF.out]
            exact ⟨rfl, rfl⟩
          · have h2' : decide ((s.size : Int) ≤ 65536) = false := by simp; omega
            have HN : Hid (∀ y ∈ L.take (i + 1), okLen y.2.2.2.2.size = true) := by
              intro y hy
              rw [HSn.out, List.mem_append] at hy
              rcases hy with hy | hy
              · exact HUP.out y hy
              · simp at hy; subst hy; simp only [okLen, Bool.or_eq_true, decide_eq_true_eq]; omega
            clear h1 h2
            go_wp2_with fail
            go_round
            case rel => exact ⟨i + 1, by omega, by go_num, HN.out⟩
            case measure => simp [intOf]; omega
        · have h1' : decide ((s.size : Int) > 40) = false := by simp; omega
          have HN : Hid (∀ y ∈ L.take (i + 1), okLen y.2.2.2.2.size = true) := by
            intro y hy
            rw [HSn.out, List.mem_append] at hy
            rcases hy with hy | hy
            · exact HUP.out y hy
            · simp at hy; subst hy; simp only [okLen, Bool.or_eq_true, decide_eq_true_eq]; omega
          clear h1
          go_wp2_with fail
          go_round
          case rel => exact ⟨i + 1, by omega, by go_num, HN.out⟩
          case measure => simp [intOf]; omega
      · have e : i = L.length := by omega
        have HT : Hid (shortB L = true) := by
          rw [Hid, HS.out, List.all_eq_true]
          intro s hs
          refine HUP.out s ?_
          rw [e, List.take_length]
          exact hs
        subst e
        go_wp2_with fail
        go_returns
        rw [HT.out]
        exact ⟨rfl, rfl⟩
  · have hl' : decide ((L.length : Int) > 80) = true := by simp; omega
    have HF : Hid (shortB L = false) := by simp [shortB, hl, Hid]
    clear hl
    go_wp2_with fail
    go_returns
    rw [HF.out]
    exact ⟨rfl, rfl⟩
theorem shortB_len {L : List Stp} (h : shortB L = true) : L.length ≤ 80 := by
  unfold shortB at h
  simp only [Bool.and_eq_true, decide_eq_true_eq] at h
  exact h.1
end Go.Proofs.Ytnbiihnfggcakaa
