/- What is chosen stays: the plain laws of LearnStays; slices of pairs of bytes. -/
import Derived.Test.YtnnadpbfidfhoaaLArgs
set_option linter.unusedVariables false
set_option linter.unusedSimpArgs false
namespace Go.Proofs.Ytnnadpbfidfhoaa
open Go.RowKit Go.Maps Go.Shelf Go.ChangeShapes Go.WideShapes Go.Deep

theorem add_flat (b off k : Nat) : (⟨b, off, none⟩ : Addr).add k = ⟨b, off + k, none⟩ := by
  unfold Addr.add
  by_cases h : k = 0 <;> simp [h]
/-- The value v is the slice of the pairs of bytes L. -/
def PairsIn (w : World) (v : Value) (L : List (Nat × Nat)) : Prop :=
  ∃ A cap, v = .slice A L.length cap ∧ L.length ≤ cap ∧ cap ≤ maxLen ∧ (∀ s ∈ L, s.1 < 256 ∧ s.2 < 256) ∧
    (0 < L.length → ∃ b off, A = some ⟨b, off, none⟩ ∧ b < w.heap.size ∧ ∀ i s, L[i]? = some s →
      w.cell? ⟨b, off + i * 2, none⟩ = some (.int .u8 (s.1 : Int)) ∧ w.cell? ⟨b, off + i * 2 + 1, none⟩ = some (.int .u8 (s.2 : Int)))
section
variable {H : Type} {enc : TypeId × Value → H} {w : World} {base n : Nat} {spare : Nat → Bool} {held : Bool} {cs : List Value} {x : DataW H × List MemPlace}
set_option maxRecDepth 100000 in
theorem pair_open (ht : DataW.trod enc Try.prog w base spare held n 43 cs = some x) : ∃ s : Nat × Nat, cs = [.int .u8 (s.1 : Int), .int .u8 (s.2 : Int)] ∧ s.1 < 256 ∧ s.2 < 256 := by
  obtain ⟨xs, k, _, _, hlen, hxl, hf⟩ := DataW.trod_array Try.underlying43 ht
  rw [show Try.prog.cellsOf 43 = 2 by kernel_rfl] at hlen
  match cs, hlen with
  | [c0, c1], _ =>
    match xs, hxl with
    | [y0, y1], _ =>
      have h0 := hf 0 (by decide)
      have h1 := hf 1 (by decide)
      rw [show Try.prog.cellsOf 5 = 1 by kernel_rfl] at h0 h1
      have h0 : DataW.trod enc Try.prog w base spare held k 5 [c0] = some y0 := h0
      have h1 : DataW.trod enc Try.prog w base spare held k 5 [c1] = some y1 := h1
      obtain ⟨z0, e0, _, w0⟩ := DataW.trod_int Try.underlying5 h0
      obtain ⟨z1, e1, _, w1⟩ := DataW.trod_int Try.underlying5 h1
      cases e0
      cases e1
      obtain ⟨k0, l0, rfl⟩ := u8_nat w0
      obtain ⟨k1, l1, rfl⟩ := u8_nat w1
      exact ⟨(k0, k1), rfl, l0, l1⟩
end
theorem PairsIn.of_trod {H : Type} {enc : TypeId × Value → H} {w : World} {base : Nat} {spare : Nat → Bool} {held : Bool} {a0 : Option Addr} {len0 cap0 : Nat} {d : DataW H} {p : List MemPlace}
    (h : DataW.Trod enc Try.prog w base spare held 42 (.slice a0 len0 cap0) d p) : ∃ L, PairsIn w (.slice a0 len0 cap0) L := by
  obtain ⟨fuel, hf⟩ := h
  rcases open_slice Try.underlying42 hf with ⟨hcs, _⟩ | ⟨a, len, cap, m, n, D, Pl, hcs, hb, hl, hm, hmm, _, hi⟩
  · simp [Value.cells] at hcs
    obtain ⟨rfl, rfl, rfl⟩ := hcs
    exact ⟨[], none, 0, rfl, Nat.le_refl _, Nat.zero_le _, fun s hs => by simp at hs, fun h => absurd h (by simp)⟩
  · simp [Value.cells] at hcs
    obtain ⟨rfl, rfl, rfl⟩ := hcs
    have hlm : len0 ≤ m := by rw [hmm]; split <;> omega
    have hall : ∀ i, i < len0 → ∃ s : Nat × Nat, (s.1 < 256 ∧ s.2 < 256) ∧ ∀ j u, ([.int .u8 (s.1 : Int), .int .u8 (s.2 : Int)] : List Value)[j]? = some u → w.cell? (a.add (i * 2 + j)) = some u := by
      intro i hi'
      obtain ⟨cs, hc, ht⟩ := hi i (by omega)
      rw [show Try.prog.cellsOf 43 = 2 by kernel_rfl] at hc
      obtain ⟨s, rfl, hs⟩ := pair_open ht
      obtain ⟨_, hl5, hcell⟩ := World.cells?_some hc
      refine ⟨s, hs, fun j u hu => ?_⟩
      have hj : j < 2 := (List.getElem?_eq_some_iff.1 hu).1
      rw [← add_of_add, hcell j hj]
      exact hu
    obtain ⟨f, hf1⟩ : ∃ f : Nat → Nat × Nat, ∀ i, i < len0 → ((f i).1 < 256 ∧ (f i).2 < 256) ∧ ∀ j u, ([.int .u8 ((f i).1 : Int), .int .u8 ((f i).2 : Int)] : List Value)[j]? = some u → w.cell? (a.add (i * 2 + j)) = some u :=
      ⟨fun i => if h : i < len0 then Classical.choose (hall i h) else default, fun i hi => by simp only [dif_pos hi]; exact Classical.choose_spec (hall i hi)⟩
    have hlen : ((List.range len0).map f).length = len0 := by simp
    refine ⟨(List.range len0).map f, some a, cap0, by rw [hlen], by rw [hlen]; exact hl, hm, fun s hs => ?_, fun h0 => ?_⟩
    · simp only [List.mem_map, List.mem_range] at hs
      obtain ⟨i, hi', rfl⟩ := hs
      exact (hf1 i hi').1
    · rw [hlen] at h0
      obtain ⟨b, off, spot⟩ := a
      have h1 := (hf1 0 h0).2 0 _ rfl
      have hspot : spot = none := by simpa [Addr.add] using World.cell?_spot h1
      subst hspot
      obtain ⟨o, ho, _⟩ := cells_of_cell h1
      refine ⟨b, off, rfl, ?_, fun i s hx => ?_⟩
      · simpa [block_of_add] using (Array.getElem?_eq_some_iff.1 ho).1
      · have hi' : i < len0 := by have := (List.getElem?_eq_some_iff.1 hx).1; omega
        have e : f i = s := by
          simp only [List.getElem?_map, List.getElem?_range hi', Option.map_some] at hx
          exact Option.some.inj hx
        subst e
        have q := (hf1 i hi').2
        have q0 := q 0 _ rfl
        have q1 := q 1 _ rfl
        rw [add_flat] at q0 q1
        exact ⟨q0, q1⟩

/-! ### One slot -/
abbrev gd : ByteArray := ⟨#[103, 111, 111, 100]⟩
abbrev bd : ByteArray := ⟨#[98, 97, 100]⟩
theorem ord0 (r g : Int) : ordB (r, 0) (g, 0) < 0 ↔ r < g := by
  unfold ordB firstI cmpI
  split <;> split <;> (try split) <;> (try split) <;> omega
theorem isV3 {n : Nat} {node : Nat} {r : Int} (hn : 1 ≤ n ∧ n ≤ 7) (hk : node < n) (hr : 1 ≤ r ∧ r ≤ 16) : isV n node r 0 = true := by
  unfold isV chkE
  have h1 : (0 : Int) ≤ (node : Int) ∧ (node : Int) < (n : Int) := by omega
  have h2 : (r == 0) = false := by simp; omega
  rw [decide_eq_true h1, h2, if_neg (by omega), if_neg (by omega), if_neg (by omega)]
  rfl
theorem adC3 {n : Nat} {node : Nat} {r : Int} {L : KL} (hn : 1 ≤ n ∧ n ≤ 7) (hk : node < n) (hr : 1 ≤ r ∧ r ≤ 16) (v : ByteArray) (hv : v.size ≤ 65536) : adC ⟨n, 0, L⟩ node r 0 3 v = 0 := by
  unfold adC
  rw [isV3 hn hk hr]
  unfold lchk
  rw [if_neg (by simp), if_neg (by omega), if_neg (by simp)]
/-- Chosen: 'good', in the ballot (g, 0) at least. -/
structure Cho (e : Kn) (g : Int) : Prop where
  c : e.c = true
  v : e.v = gd
  r : e.r = g
  d : e.d = 0
  vote : 1 ≤ g → e.vote = gd
theorem kget1 (e : Kn) : kget 3 [(3, e)] = e := rfl
theorem put1 (e e' : Kn) : put 3 e' [(3, e)] = [(3, e')] := rfl
section
variable {s : LSt} {node r d k : Int} {v : ByteArray}
theorem adR_old (h1 : adC s node r d k v = 0) (h2 : ordB (r, d) ((kget k s.L).r, (kget k s.L).d) < 0) : adR s node r d k v = ((false, 0), s) := by
  unfold adR
  rw [if_neg (by rw [h1]; simp), if_pos h2]
theorem adR_bad (h1 : adC s node r d k v = 0) (h2 : ¬ ordB (r, d) ((kget k s.L).r, (kget k s.L).d) < 0) (h3 : adBad (kget k s.L) r d v) : adR s node r d k v = ((false, 9), s) := by
  unfold adR
  rw [if_neg (by rw [h1]; simp), if_neg h2, if_pos h3]
theorem adR_yes (h1 : adC s node r d k v = 0) (h2 : ¬ ordB (r, d) ((kget k s.L).r, (kget k s.L).d) < 0) (h3 : ¬ adBad (kget k s.L) r d v) :
    adR s node r d k v = ((adNow (kget k s.L) r d node.toNat s.n, 0), { s with L := put k (adKn (kget k s.L) r d node.toNat s.n v) s.L }) := by
  unfold adR
  rw [if_neg (by rw [h1]; simp), if_neg h2, if_neg h3]
end
section
variable {n node : Nat} {e : Kn} {g r : Int}
theorem stay_old (h : Cho e g) (hn : 1 ≤ n ∧ n ≤ 7) (hk : node < n) (hr : 1 ≤ r ∧ r ≤ 16) (v : ByteArray) (hv : v.size ≤ 65536) (ho : r < g) : adR ⟨n, 0, [(3, e)]⟩ node r 0 3 v = ((false, 0), ⟨n, 0, [(3, e)]⟩) := by
  refine adR_old (adC3 hn hk hr v hv) ?_
  show ordB (r, 0) (e.r, e.d) < 0
  rw [h.r, h.d]
  exact (ord0 r g).2 ho
theorem stay_bad (h : Cho e g) (hn : 1 ≤ n ∧ n ≤ 7) (hk : node < n) (hr : 1 ≤ r ∧ r ≤ 16) (ho : ¬ r < g) : adR ⟨n, 0, [(3, e)]⟩ node r 0 3 bd = ((false, 9), ⟨n, 0, [(3, e)]⟩) := by
  refine adR_bad (adC3 hn hk hr bd (by decide)) ?_ ?_
  · show ¬ ordB (r, 0) (e.r, e.d) < 0
    rw [h.r, h.d]
    exact fun hc => ho ((ord0 r g).1 hc)
  · show adBad e r 0 bd
    refine .inr ⟨h.c, ?_⟩
    rw [h.v]
    decide
theorem stay_good (h : Cho e g) (hn : 1 ≤ n ∧ n ≤ 7) (hk : node < n) (hr : 1 ≤ r ∧ r ≤ 16) (ho : ¬ r < g) : ∃ e', adR ⟨n, 0, [(3, e)]⟩ node r 0 3 gd = ((false, 0), ⟨n, 0, [(3, e')]⟩) ∧ Cho e' r := by
  have hnow : ∀ a, adNow e r 0 a n = false := fun a => by unfold adNow; rw [h.c]; simp
  refine ⟨adKn e r 0 node n gd, ?_, ?_⟩
  · rw [adR_yes (s := ⟨n, 0, [(3, e)]⟩) (adC3 hn hk hr gd (by decide)) ?_ ?_]
    · show ((adNow e r 0 (Int.toNat (node : Int)) n, 0), (⟨n, 0, [(3, adKn e r 0 (Int.toNat (node : Int)) n gd)]⟩ : LSt)) = _
      rw [Int.toNat_natCast, hnow]
    · show ¬ ordB (r, 0) (e.r, e.d) < 0
      rw [h.r, h.d]
      exact fun hc => ho ((ord0 r g).1 hc)
    · show ¬ adBad e r 0 gd
      rintro (⟨h1, h2, h3⟩ | ⟨h1, h2⟩)
      · rw [h.r] at h1
        exact h3 (h.vote (by omega)).symm
      · rw [h.v] at h2
        exact h2 rfl
  · refine ⟨?_, ?_, rfl, rfl, fun _ => rfl⟩
    · unfold adKn; simp only [h.c, Bool.true_or]
    · unfold adKn; simp only [hnow, Bool.false_eq_true, if_false, h.v]
theorem stay_lbad (h : Cho e g) : lnE ⟨n, 0, [(3, e)]⟩ 3 bd = 9 ∧ lnS ⟨n, 0, [(3, e)]⟩ 3 bd = ⟨n, 0, [(3, e)]⟩ := by
  have h1 : lnE ⟨n, 0, [(3, e)]⟩ 3 bd = 9 := by
    unfold lnE
    rw [if_neg (show ¬ lchk 0 false 3 bd.size ≠ 0 by decide), if_pos]
    simp only [kget1]
    refine ⟨h.c, ?_⟩
    rw [h.v]
    decide
  refine ⟨h1, ?_⟩
  unfold lnS
  rw [h1]
  rfl
theorem stay_lgood (h : Cho e g) : lnE ⟨n, 0, [(3, e)]⟩ 3 gd = 0 ∧ lnS ⟨n, 0, [(3, e)]⟩ 3 gd = ⟨n, 0, [(3, e)]⟩ := by
  have h1 : lnE ⟨n, 0, [(3, e)]⟩ 3 gd = 0 := by
    unfold lnE
    rw [if_neg (show ¬ lchk 0 false 3 gd.size ≠ 0 by decide), if_neg]
    simp only [kget1]
    rintro ⟨_, h2⟩
    exact h2 h.v.symm
  refine ⟨h1, ?_⟩
  unfold lnS
  rw [if_pos h1]
  simp only [kget1, put1]
  obtain ⟨c, v, r, d, vote, set⟩ := e
  have hc : c = true := h.c
  have hv : v = gd := h.v
  subst hc hv
  rfl
theorem stay_opn (h : Cho e g) : opn [(3, e)] = [] := by
  unfold opn
  simp [h.c]
end
/-- i nodes have voted for 'good' in the ballot (8, 0). -/
def Vot (n i : Nat) (L : KL) : Prop := i = 0 ∧ L = [] ∨ 0 < i ∧ ∃ e : Kn, L = [(3, e)] ∧ e.r = 8 ∧ e.d = 0 ∧ e.vote = gd ∧ e.set = 2 ^ i - 1 ∧ (e.c = true → e.v = gd) ∧ (maj (2 ^ i - 1) n = true → e.c = true)
theorem full_bits : ∀ i : Nat, i < 7 → (2 ^ i - 1) ||| 2 ^ i = 2 ^ (i + 1) - 1 := by decide +kernel
theorem full_maj : ∀ n : Nat, n < 8 → (n == 0 || maj (2 ^ n - 1) n) = true := by decide +kernel
theorem Vot.step {n i : Nat} {L : KL} (h : Vot n i L) (hn : 1 ≤ n ∧ n ≤ 7) (hi : i < n) : ∃ b L', adR ⟨n, 0, L⟩ i 8 0 3 gd = ((b, 0), ⟨n, 0, L'⟩) ∧ Vot n (i + 1) L' := by
  obtain ⟨e, he, hp, hr, hb, hset, hcv⟩ : ∃ e : Kn, kget 3 L = e ∧ (∀ e', put 3 e' L = [(3, e')]) ∧ ¬ ordB (8, 0) (e.r, e.d) < 0 ∧ ¬ adBad e 8 0 gd ∧ adSet e 8 0 i = 2 ^ (i + 1) - 1 ∧ (e.c = true → e.v = gd) := by
    rcases h with ⟨rfl, rfl⟩ | ⟨h0, e, rfl, h1, h2, h3, h4, h5, h6⟩
    · refine ⟨kn0, rfl, fun _ => rfl, by decide, ?_, by decide, fun hc => by cases hc⟩
      rintro (⟨h1, _⟩ | ⟨h1, _⟩)
      · exact absurd h1 (by decide)
      · cases h1
    · refine ⟨e, rfl, fun _ => rfl, by rw [h1, h2]; decide, ?_, ?_, h5⟩
      · rintro (⟨_, _, h7⟩ | ⟨h7, h8⟩)
        · exact h7 h3.symm
        · exact h8 (h5 h7).symm
      · unfold adSet
        rw [if_pos ⟨h1, h2⟩, h4]
        exact full_bits i (by omega)
  subst he
  refine ⟨adNow (kget 3 L) 8 0 i n, [(3, adKn (kget 3 L) 8 0 i n gd)], ?_, .inr ⟨by omega, _, rfl, rfl, rfl, rfl, hset, ?_, ?_⟩⟩
  · rw [adR_yes (s := ⟨n, 0, L⟩) (adC3 hn hi (by omega) gd (by decide)) hr hb]
    show ((adNow (kget 3 L) 8 0 (Int.toNat (i : Int)) n, 0), (⟨n, 0, put 3 (adKn (kget 3 L) 8 0 (Int.toNat (i : Int)) n gd) L⟩ : LSt)) = _
    rw [Int.toNat_natCast, hp]
  · intro hc
    unfold adKn at hc ⊢
    simp only at hc ⊢
    cases hnw : adNow (kget 3 L) 8 0 i n with
    | true => simp
    | false =>
      rw [hnw] at hc
      simp only [Bool.or_false] at hc
      simp only [Bool.false_eq_true, if_false]
      exact hcv hc
  · intro hm
    unfold adKn adNow
    rw [hset, hm]
    simp only [Bool.true_and]
    cases (kget 3 L).c <;> rfl
theorem Vot.fin {n : Nat} {L : KL} (h : Vot n n L) (hn : 1 ≤ n ∧ n ≤ 7) : ∃ e, L = [(3, e)] ∧ Cho e 8 := by
  rcases h with ⟨h0, _⟩ | ⟨_, e, rfl, h1, h2, h3, h4, h5, h6⟩
  · omega
  · have hm := full_maj n (by omega)
    have h0 : (n == 0) = false := by simp; omega
    rw [h0, Bool.false_or] at hm
    exact ⟨e, rfl, h6 hm, h5 (h6 hm), h1, h2, fun _ => h3⟩
theorem rm1 (k : Nat) : (0 : Int) = (k : Int) % ((1 : Nat) : Int) := by omega
theorem rm2 (k : Nat) : (k : Int).tmod 2 = (k : Int) % ((2 : Nat) : Int) := Int.tmod_eq_emod_of_nonneg (by omega)
theorem rm3 (k : Nat) : (k : Int).tmod 3 = (k : Int) % ((3 : Nat) : Int) := Int.tmod_eq_emod_of_nonneg (by omega)
theorem rm4 (k : Nat) : (k : Int).tmod 4 = (k : Int) % ((4 : Nat) : Int) := Int.tmod_eq_emod_of_nonneg (by omega)
theorem rm5 (k : Nat) : (k : Int).tmod 5 = (k : Int) % ((5 : Nat) : Int) := Int.tmod_eq_emod_of_nonneg (by omega)
theorem rm6 (k : Nat) : (k : Int).tmod 6 = (k : Int) % ((6 : Nat) : Int) := Int.tmod_eq_emod_of_nonneg (by omega)
theorem rm7 (k : Nat) : (k : Int).tmod 7 = (k : Int) % ((7 : Nat) : Int) := Int.tmod_eq_emod_of_nonneg (by omega)
theorem wx16 (k : Nat) (h : k < 256) : IntKind.i64.wrap (1 + IntKind.i64.wrap ((k : Int).tmod 16)) = 1 + (k : Int) % 16 := by
  rw [Int.tmod_eq_emod_of_nonneg (by omega), IntKind.wrap_i64, IntKind.wrap_i64]; omega
theorem wy64 (k : Nat) (h : k < 256) : IntKind.i64.wrap (k : Int) = (k : Int) := by
  rw [IntKind.wrap_i64]; omega
end Go.Proofs.Ytnnadpbfidfhoaa
