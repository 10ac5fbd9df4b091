/- LearnPlays: its arguments; few; both learners; shows. -/
import Derived.Test.YtnnadpbfidfhoaaRLearnF
import Derived.OpenShut
import Derived.ChangeSlices
import Derived.Deep.Slices
import Derived.Deep.Fields
import Derived.ChangeSame
set_option linter.unusedVariables false
set_option linter.unusedSimpArgs false
namespace Go.Proofs.Ytnnadpbfidfhoaa
open Go.RowKit Go.Maps Go.Shelf Go.ChangeShapes Go.WideShapes Go.Deep

/-- A step: what to do, the node, the slot, the ballot's round and node, the value. -/
abbrev Stp := Int × Int × Int × Int × Int × ByteArray
def okStp (s : Stp) : Prop := in64 s.1 ∧ in64 s.2.1 ∧ in64 s.2.2.1 ∧ in64 s.2.2.2.1 ∧ in64 s.2.2.2.2.1 ∧ s.2.2.2.2.2.size ≤ maxLen
abbrev stpCells (s : Stp) : List Value := [.int .i64 s.1, .int .i64 s.2.1, .int .i64 s.2.2.1, .int .i64 s.2.2.2.1, .int .i64 s.2.2.2.2.1, .string s.2.2.2.2.2]
/-- The value v is the slice of the steps L. -/
def StepsIn (w : World) (v : Value) (L : List Stp) : Prop :=
  ∃ A cap, v = .slice A L.length cap ∧ L.length ≤ cap ∧ cap ≤ maxLen ∧ (∀ s ∈ L, okStp s) ∧
    (0 < L.length → ∃ b off, A = some ⟨b, off, none⟩ ∧ b < w.heap.size ∧ ∀ i s, L[i]? = some s →
      w.cell? ⟨b, off + i * 6, none⟩ = some (.int .i64 s.1) ∧ w.cell? ⟨b, off + i * 6 + 1, none⟩ = some (.int .i64 s.2.1) ∧ w.cell? ⟨b, off + i * 6 + 2, none⟩ = some (.int .i64 s.2.2.1) ∧
      w.cell? ⟨b, off + i * 6 + 3, none⟩ = some (.int .i64 s.2.2.2.1) ∧ w.cell? ⟨b, off + i * 6 + 4, none⟩ = some (.int .i64 s.2.2.2.2.1) ∧ w.cell? ⟨b, off + i * 6 + 5, none⟩ = some (.string s.2.2.2.2.2))

section
variable {H : Type} {enc : TypeId × Value → H} {w : World} {base n : Nat} {spare : Nat → Bool} {held : Bool} {cs : List Value} {x : DataW H × List MemPlace}
set_option maxRecDepth 100000 in
theorem stp_open (ht : DataW.trod enc Try.prog w base spare held n 58 cs = some x) : ∃ s : Stp, cs = stpCells s ∧ okStp s := by
  obtain ⟨ys, k, _, _, hlen, hyl, hf⟩ := DataW.trod_struct Try.underlying58 ht
  rw [show Try.prog.cellsOf 58 = 6 by kernel_rfl] at hlen
  have hyl : ys.length = 5 := hyl
  match cs, hlen with
  | [c0, c1, c2, c3, c4, c5], _ =>
    match ys, hyl with
    | [y0, y1, y2, y3, y4], _ =>
      have h0 : DataW.trod enc Try.prog w base spare held k 3 [c0] = some y0 := hf 0 _ rfl
      have h1 : DataW.trod enc Try.prog w base spare held k 3 [c1] = some y1 := hf 1 _ rfl
      have h2 : DataW.trod enc Try.prog w base spare held k 3 [c2] = some y2 := hf 2 _ rfl
      have h3 : DataW.trod enc Try.prog w base spare held k 31 [c3, c4] = some y3 := hf 3 _ rfl
      have h4 : DataW.trod enc Try.prog w base spare held k 9 [c5] = some y4 := hf 4 _ rfl
      obtain ⟨z0, e0, _, w0⟩ := DataW.trod_int Try.underlying3 h0
      obtain ⟨z1, e1, _, w1⟩ := DataW.trod_int Try.underlying3 h1
      obtain ⟨z2, e2, _, w2⟩ := DataW.trod_int Try.underlying3 h2
      obtain ⟨r, d, e3, w3, w3'⟩ := bal_open h3
      obtain ⟨s, e4, _, w4⟩ := DataW.trod_string Try.underlying9 h4
      cases e0
      cases e1
      cases e2
      cases e3
      cases e4
      exact ⟨(z0, z1, z2, r, d, s), rfl, in64_wf w0, in64_wf w1, in64_wf w2, w3, w3', w4⟩
end
theorem StepsIn.of_trod {H : Type} {enc : TypeId × Value → H} {w : World} {base : Nat} {spare : Nat → Bool} {held : Bool} {a0 : Option Addr} {len0 cap0 : Nat} {d : DataW H} {p : List MemPlace}
    (h : DataW.Trod enc Try.prog w base spare held 52 (.slice a0 len0 cap0) d p) : ∃ L, StepsIn w (.slice a0 len0 cap0) L := by
  obtain ⟨fuel, hf⟩ := h
  rcases open_slice Try.underlying52 hf with ⟨hcs, _⟩ | ⟨a, len, cap, m, n, D, Pl, hcs, hb, hl, hm, hmm, _, hi⟩
  · simp [Value.cells] at hcs
    obtain ⟨rfl, rfl, rfl⟩ := hcs
    exact ⟨[], none, 0, rfl, Nat.le_refl _, Nat.zero_le _, fun s hs => by simp at hs, fun h => absurd h (by simp)⟩
  · simp [Value.cells] at hcs
    obtain ⟨rfl, rfl, rfl⟩ := hcs
    have hlm : len0 ≤ m := by rw [hmm]; split <;> omega
    have hall : ∀ i, i < len0 → ∃ s : Stp, okStp s ∧ ∀ j u, (stpCells s)[j]? = some u → w.cell? (a.add (i * 6 + j)) = some u := by
      intro i hi'
      obtain ⟨cs, hc, ht⟩ := hi i (by omega)
      rw [show Try.prog.cellsOf 58 = 6 by kernel_rfl] at hc
      obtain ⟨s, rfl, hs⟩ := stp_open ht
      obtain ⟨_, hl6, hcell⟩ := World.cells?_some hc
      refine ⟨s, hs, fun j u hu => ?_⟩
      have hj : j < 6 := (List.getElem?_eq_some_iff.1 hu).1
      rw [← add_of_add, hcell j hj]
      exact hu
    obtain ⟨f, hf1⟩ : ∃ f : Nat → Stp, ∀ i, i < len0 → okStp (f i) ∧ ∀ j u, (stpCells (f i))[j]? = some u → w.cell? (a.add (i * 6 + j)) = some u :=
      ⟨fun i => if h : i < len0 then Classical.choose (hall i h) else default, fun i hi => by simp only [dif_pos hi]; exact Classical.choose_spec (hall i hi)⟩
    have hlen : ((List.range len0).map f).length = len0 := by simp
    refine ⟨(List.range len0).map f, some a, cap0, by rw [hlen], by rw [hlen]; exact hl, hm, fun s hs => ?_, fun h0 => ?_⟩
    · simp only [List.mem_map, List.mem_range] at hs
      obtain ⟨i, hi', rfl⟩ := hs
      exact (hf1 i hi').1
    · rw [hlen] at h0
      obtain ⟨b, off, spot⟩ := a
      have h1 := (hf1 0 h0).2 0 _ rfl
      have hspot : spot = none := by simpa [Addr.add] using World.cell?_spot h1
      subst hspot
      obtain ⟨o, ho, _⟩ := cells_of_cell h1
      refine ⟨b, off, rfl, ?_, fun i s hx => ?_⟩
      · simpa [block_of_add] using (Array.getElem?_eq_some_iff.1 ho).1
      · have hi' : i < len0 := by have := (List.getElem?_eq_some_iff.1 hx).1; omega
        have e : f i = s := by
          simp only [List.getElem?_map, List.getElem?_range hi', Option.map_some] at hx
          exact Option.some.inj hx
        subst e
        have q := (hf1 i hi').2
        have q0 := q 0 _ rfl
        have q1 := q 1 _ rfl
        have q2 := q 2 _ rfl
        have q3 := q 3 _ rfl
        have q4 := q 4 _ rfl
        have q5 := q 5 _ rfl
        rw [add_flat] at q0 q1 q2 q3 q4 q5
        exact ⟨q0, q1, q2, q3, q4, q5⟩
theorem StepsIn.below {w w' : World} {v : Value} {L : List Stp} (h : StepsIn w v L) (hb : Below w.heap.size w w') : StepsIn w' v L := by
  obtain ⟨A, cap, h1, h2, h3, h4, h5⟩ := h
  refine ⟨A, cap, h1, h2, h3, h4, fun h0 => ?_⟩
  obtain ⟨b, off, k1, k2, k3⟩ := h5 h0
  refine ⟨b, off, k1, Nat.lt_of_lt_of_le k2 hb.size, fun i s hx => ?_⟩
  obtain ⟨q0, q1, q2, q3, q4, q5⟩ := k3 i s hx
  exact ⟨bcell hb q0, bcell hb q1, bcell hb q2, bcell hb q3, bcell hb q4, bcell hb q5⟩


/-! ### few -/
set_option maxRecDepth 100000 in
set_option maxHeartbeats 1000000 in
theorem few_any (v : Value) (L : List Stp) (w : World) (h : StepsIn w v L) :
    Calls Try.prog 20 #[v] w fun e w' => ∃ b, e = .returned (.bool b) ∧ (b = true → L.length ≤ 100) ∧ Below w.heap.size w w' := by
  obtain ⟨A, cap, rfl, hle, hm, hin, hc⟩ := h
  have HC := Lib.hid hc
  have hml : cap ≤ 9223372036854775807 := by unfold maxLen at hm; omega
  clear hc hin hm
  go_enter Try.func20, Try.ntmps20
  go_wp2_with fail
  go_loopw [3, 8] (fun a c wr => ∃ (i : Nat) (n : Int), i ≤ L.length ∧ c = .int .i64 i ∧ a = .int .i64 n ∧ Below w.heap.size w wr) (fun _ c _ => L.length - (intOf c).toNat)
  case atStart => exact ⟨0, 0, by omega, rfl, rfl, Below.refl _ _⟩
  case round =>
    obtain ⟨i, n, hi, rfl, rfl, hB⟩ := hrel
    have HB := Lib.hid hB
    by_cases hlt : i < L.length
    · obtain ⟨b, off, rfl, hb, hcells⟩ := HC.out (by omega)
      obtain ⟨⟨x, nd, k, r, d, s⟩, hs⟩ : ∃ s, L[i]? = some s := ⟨_, List.getElem?_eq_getElem hlt⟩
      obtain ⟨q0, q1, q2, q3, q4, q5⟩ := hcells i _ hs
      simp only at q0 q1 q2 q3 q4 q5
      have d0 := bcell hB q0
      have d1 := bcell hB q1
      have d2 := bcell hB q2
      have d3 := bcell hB q3
      have d4 := bcell hB q4
      have d5 := bcell hB q5
      clear q0 q1 q2 q3 q4 q5 hs hcells hB
      go_wp2_with fail
      go_roundw
      case rel => exact ⟨i + 1, _, by omega, by go_num, rfl, HB.out.alloc HB.out.size _⟩
      case measure => simp [intOf]; omega
    · have e : i = L.length := by omega
      subst e
      clear hB
      cases hl : decide ((L.length : Int) ≤ 100) with
      | false =>
        go_wp2_with fail
        go_returns
        exact ⟨_, rfl, (fun h => by cases h), HB.out⟩
      | true =>
        have hl' : L.length ≤ 100 := by simp at hl; omega
        cases hn : decide (n ≤ 300000) with
        | false =>
          go_wp2_with fail
          go_returns
          exact ⟨_, rfl, fun _ => hl', HB.out⟩
        | true =>
          go_wp2_with fail
          go_returns
          exact ⟨_, rfl, fun _ => hl', HB.out⟩

/-! ### Both learners -/
theorem LS.ofR {w w' : World} {p m q : Nat} {v : Value} {s s0 : LSt} {R : KL} (h : LS w p m s) (r : RLAt w q v s0 R) (k : Fr (S1 q) w w') : LS w' p m s := by
  obtain ⟨⟨u, hT, hc⟩, hg⟩ := h
  refine ⟨⟨u, hT.fr k ?_ ?_, hc⟩, hg⟩
  · intro e
    have e : p = q := e
    exact hT.blk.ne_type r.blk (by decide) e
  · intro e
    have e : m = q := e
    obtain ⟨es, c, hm⟩ := hT.map.block
    exact r.blk.ne_map hm e.symm
theorem RLAt.ofA {w w' : World} {p m q : Nat} {v : Value} {s s0 : LSt} {R : KL} (r : RLAt w q v s R) (h : LS w p m s0) (k : Fr (S2 p m) w w') : RLAt w' q v s R := by
  obtain ⟨⟨u, hT, hc⟩, hg⟩ := h
  obtain ⟨es, c, hm⟩ := hT.map.block
  refine r.fr k ?_ ?_
  · rintro (e | e)
    · exact r.blk.ne_type hT.blk (by decide) e
    · exact r.blk.ne_map hm e
  · rintro g hg (e | e)
    · exact row_ne_blk r.row hT.blk (by decide) g hg e
    · exact row_ne_map r.row hm g hg e
/-- What is kept of earlier learners: all in blocks below B. -/
def OU (B : Nat) (w : World) (o a : Value) : Option LSt → Prop
  | none => o = .pointer none ∧ a = .pointer none
  | some s => ∃ p m q v R, o = .pointer (some ⟨p, 0, none⟩) ∧ a = .pointer (some ⟨q, 0, none⟩) ∧ LS w p m s ∧ RLAt w q v s R ∧ p < B ∧ m < B ∧ q < B ∧ ∀ g, v.ownBlock = some g → g < B
theorem OU.fr {B : Nat} {w w' : World} {o a : Value} {σ : Option LSt} {S : Nat → Prop} (h : OU B w o a σ) (k : Fr S w w') (hS : ∀ i, S i → B ≤ i) : OU B w' o a σ := by
  cases σ with
  | none => exact h
  | some s =>
    obtain ⟨p, m, q, v, R, h1, h2, h3, h4, h5, h6, h7, h8⟩ := h
    exact ⟨p, m, q, v, R, h1, h2, h3.fr k (fun e => by have := hS _ e; omega) (fun e => by have := hS _ e; omega), h4.fr k (fun e => by have := hS _ e; omega) (fun g hg e => by have := hS _ e; have := h8 g hg; omega), h5, h6, h7, h8⟩
theorem OU.below {B : Nat} {w w' : World} {o a : Value} {σ : Option LSt} (h : OU B w o a σ) (k : Below w.heap.size w w') : OU B w' o a σ := h.fr (Fr.of_below k : Fr S0 w w') (fun i h => h.elim)

/-! ### shows -/
set_option maxRecDepth 100000 in
set_option maxHeartbeats 4000000 in
theorem shows_any (p m q : Nat) (v : Value) (s : LSt) (R : KL) (k : Int) (w : World) (h : LS w p m s) (r : RLAt w q v s R) (hk : in64 k) :
    Calls Try.prog 27 #[.pointer (some ⟨p, 0, none⟩), .pointer (some ⟨q, 0, none⟩), .int .i64 k] w fun e w' => e = .returned (.bool true) ∧ Below w.heap.size w w' := by
  have hEq := fun (a b c d : Int) (w : World) => eqBal a b c d w
  have hGq := eqGBal
  obtain ⟨⟨kc, kv, kr, kd, kvo, ks⟩, hkg⟩ : ∃ e, kget k s.L = e := ⟨_, rfl⟩
  have HK := Lib.hid hkg
  have H := Lib.hid h
  have RR := Lib.hid r
  have hlo : (opn s.L).length ≤ 1000000000 := by have := opn_len s.L; have := h.good.len; omega
  have hst : (kv.toList == kv.toList) = true := by simp
  clear h r hkg
  go_enter Try.func27, Try.ntmps27
  go_wp2_with (first
    | (go_at_call 13; refine (chosen_S p m s k _ H.out hk).mono ?_; rw [HK.out]; rintro e w1 ⟨rfl, b1⟩; have H1 := Lib.hid (H.out.below b1); have R1 := Lib.hid (RR.out.below b1); have B1 := Lib.hid b1; clear b1)
    | (go_at_call 45; refine (rlchosen_any q v s R k _ R1.out).mono ?_; rw [HK.out]; rintro e w2 ⟨rfl, b2⟩; have H2 := Lib.hid (H1.out.below b2); have R2 := Lib.hid (R1.out.below b2); have B2 := Lib.hid (bchain B1.out b2); clear b2)
    | (go_at_call 14; refine (votes_S p m s k _ H2.out hk).mono ?_; rw [HK.out]; rintro e w3 ⟨rfl, b3'⟩; have b3 := b3'.alloc b3'.size (.cells #[.int .i64 kr, .int .i64 kd] 31); have H3 := Lib.hid (H2.out.below b3); have R3 := Lib.hid (R2.out.below b3); have B3 := Lib.hid (bchain B2.out b3); have X3 := Lib.hid (Blk.new w3 31 #[.int .i64 kr, .int .i64 kd]); clear b3 b3')
    | (go_at_call 46; refine (rlvotes_any q v s R k _ R3.out).mono ?_; rw [HK.out]; rintro e w4 ⟨rfl, b4'⟩; have b4 := b4'.alloc b4'.size (.cells #[.int .i64 kr, .int .i64 kd] 31); have H4 := Lib.hid (H3.out.below b4); have R4 := Lib.hid (R3.out.below b4); have B4 := Lib.hid (bchain B3.out b4); have X4 := X3.out.bel b4; have z0 := X4.cell (i := 0) (v := .int .i64 kr) rfl; have z1 := X4.cell (i := 1) (v := .int .i64 kd) rfl; clear b4 b4' X4)
    | (go_at_call 19; refine (upto_S p m s _ H4.out).mono ?_; rintro e w' ⟨⟨u, rfl, hc, _⟩, rfl⟩; have HC := Lib.hid hc; clear hc)
    | (go_at_call 47; refine (rlupto_any q v s R _ R4.out).mono ?_; rintro e w5 ⟨⟨u', rfl, hc', _⟩, b5⟩; obtain rfl := HC.out.uniq hc'; have H5 := Lib.hid (H4.out.below b5); have R5 := Lib.hid (R4.out.below b5); have B5 := Lib.hid (bchain B4.out b5); clear hc' b5)
    | (go_at_call 15; refine (open_S p m s _ H5.out).mono ?_; rintro e w6 ⟨v6, rfl, r6, b6⟩; have O6 := Lib.hid r6; have R6 := Lib.hid (R5.out.below b6); have B6 := Lib.hid (bchain B5.out b6); clear r6 b6)
    | (go_at_call 48; refine (rlopen_any q v s R _ R6.out).mono ?_; rintro e w7 ⟨v7, rfl, r7, b7⟩; have O7 := Lib.hid r7; have Q7 := Lib.hid (O6.out.below b7); have B7 := Lib.hid (bchain B6.out b7); clear r7 b7)
    | (go_at_call 16; refine (equal_rows _ _ _ _ _ _ _ Q7.out O7.out hlo hlo).mono ?_; rintro e w8 ⟨he, b8⟩; rw [decide_eq_true rfl] at he; subst he; have B8 := Lib.hid (bchain B7.out b8); clear b8))
  go_returns
  exact ⟨rfl, B8.out⟩

theorem lnew_any (n : Int) (w : World) (hn : ¬ (1 ≤ n ∧ n ≤ 7)) : Calls Try.prog 11 #[.int .i64 n] w fun e w' => e = .returned (.tuple #[.pointer none, .int .i64 2]) ∧ Below w.heap.size w w' := lnew_bad n w hn
end Go.Proofs.Ytnnadpbfidfhoaa
