/- The plain laws of LearnMajority: votes for one value in one ballot; slices of bytes. -/
import Derived.Test.YtnnadpbfidfhoaaLearnQ
set_option linter.unusedVariables false
set_option linter.unusedSimpArgs false
namespace Go.Proofs.Ytnnadpbfidfhoaa
open Go.RowKit Go.Maps Go.Shelf Go.ChangeShapes Go.WideShapes Go.Deep

/-- The value v is the slice of the bytes zs. -/
def BytesIn (w : World) (v : Value) (zs : List Int) : Prop :=
  ∃ A cap, v = .slice A zs.length cap ∧ zs.length ≤ cap ∧ cap ≤ maxLen ∧ (∀ z ∈ zs, 0 ≤ z ∧ z ≤ 255) ∧
    (0 < zs.length → ∃ b off, A = some ⟨b, off, none⟩ ∧ b < w.heap.size ∧ ∀ i z, zs[i]? = some z → w.cell? ⟨b, off + i, none⟩ = some (.int .u8 z))
theorem u8_wf {x : Int} (h : (Lit.int .u8 x).wf = true) : 0 ≤ x ∧ x ≤ 255 := by
  simp [Lit.wf, IntKind.min, IntKind.max, IntKind.signed, IntKind.bits] at h
  omega
theorem BytesIn.of_trod {H : Type} {enc : TypeId × Value → H} {w : World} {base : Nat} {spare : Nat → Bool} {held : Bool} {a0 : Option Addr} {len0 cap0 : Nat} {d : DataW H} {p : List MemPlace}
    (h : DataW.Trod enc Try.prog w base spare held 22 (.slice a0 len0 cap0) d p) : ∃ zs, BytesIn w (.slice a0 len0 cap0) zs := by
  obtain ⟨fuel, hf⟩ := h
  rcases open_ints Try.underlying22 Try.underlying5 (by kernel_rfl) hf with ⟨hcs, _⟩ | ⟨a, l, c, zs, hcs, _, hl, hm, hz, _, hcell, hwz⟩
  · simp [Value.cells] at hcs
    obtain ⟨rfl, rfl, rfl⟩ := hcs
    exact ⟨[], none, 0, rfl, Nat.le_refl _, Nat.zero_le _, fun s hs => by simp at hs, fun h => absurd h (by simp)⟩
  · simp [Value.cells] at hcs
    obtain ⟨rfl, rfl, rfl⟩ := hcs
    have hzl : len0 ≤ zs.length := by rw [hz]; split <;> omega
    have hlen : (zs.take len0).length = len0 := by simp; omega
    refine ⟨zs.take len0, some a, cap0, by rw [hlen], by rw [hlen]; exact hl, hm, fun z hz' => u8_wf (hwz z (List.mem_of_mem_take hz')), fun h0 => ?_⟩
    rw [hlen] at h0
    obtain ⟨b, off, spot⟩ := a
    have h1 := hcell 0 (by omega)
    have hspot : spot = none := by simpa [Addr.add] using World.cell?_spot h1
    subst hspot
    obtain ⟨o, ho, _⟩ := cells_of_cell h1
    refine ⟨b, off, rfl, ?_, fun i z hx => ?_⟩
    · simpa [block_of_add] using (Array.getElem?_eq_some_iff.1 ho).1
    · have hi' : i < len0 := by have := (List.getElem?_eq_some_iff.1 hx).1; omega
      have h2 := hcell i (by omega)
      rw [add_flat] at h2
      rw [List.getElem?_take, if_pos hi'] at hx
      rw [h2, List.getD_eq_getElem?_getD, hx]
      rfl

theorem pop_or : ∀ x : Nat, x < 128 → ∀ a : Nat, a < 7 → pop x ≤ pop (x ||| 2 ^ a) := by decide +kernel
theorem maj_or {n x a : Nat} (hx : x < 128) (ha : a < 7) (h : maj x n = true) : maj (x ||| 2 ^ a) n = true := by
  have := pop_or x hx a ha
  unfold maj at h ⊢
  have := of_decide_eq_true h
  exact decide_eq_true (by omega)
theorem maj_zero (n : Nat) : maj 0 n = false := by
  unfold maj
  rw [show pop 0 = 0 from by decide +kernel]
  exact decide_eq_false (by omega)
theorem adCM {n node : Nat} {r d k : Int} {L : KL} {v : ByteArray} (hn : 1 ≤ n ∧ n ≤ 7) (hk : node < n) (hr : 1 ≤ r ∧ r ≤ 1073741824) (hd : 0 ≤ d ∧ d < n) (hs : 0 ≤ k ∧ k < 4096) (hv : v.size ≤ 1000) : adC ⟨n, 0, L⟩ node r d k v = 0 := by
  have h1 : isV n node r d = true := by
    unfold isV chkE
    have h1 : (0 : Int) ≤ (node : Int) ∧ (node : Int) < (n : Int) := by omega
    have h2 : (r == 0) = false := by simp; omega
    rw [decide_eq_true h1, h2, if_neg (by omega), if_neg (by omega), if_neg (by omega)]
    rfl
  unfold adC
  rw [h1]
  unfold lchk
  rw [if_neg (by simp; omega), if_neg (by omega), if_neg (by show ¬ k < 0; omega)]
theorem u16_nat {x : Int} (h : (Lit.int .u16 x).wf = true) : ∃ k : Nat, k < 65536 ∧ x = (k : Int) := by
  simp [Lit.wf, IntKind.min, IntKind.max, IntKind.signed, IntKind.bits] at h
  exact ⟨x.toNat, by omega, by omega⟩
theorem u32_nat {x : Int} (h : (Lit.int .u32 x).wf = true) : ∃ k : Nat, k < 4294967296 ∧ x = (k : Int) := by
  simp [Lit.wf, IntKind.min, IntKind.max, IntKind.signed, IntKind.bits] at h
  exact ⟨x.toNat, by omega, by omega⟩
/-- The state behind votes for v in the ballot (r, d) at slot k. -/
def Mj (n : Nat) (r d k : Int) (v : ByteArray) (set : Nat) (ch : Bool) (L : KL) : Prop :=
  set < 2 ^ n ∧ ch = maj set n ∧ (set = 0 ∧ L = [] ∨ L = [(k, ⟨ch, if ch = true then v else ⟨#[]⟩, r, d, v, set⟩)])
theorem kgetM (k : Int) (e : Kn) : kget k [(k, e)] = e := by simp [kget, get]
theorem Mj.step {n node set : Nat} {r d k : Int} {v : ByteArray} {ch : Bool} {L : KL} (h : Mj n r d k v set ch L) (hn : 1 ≤ n ∧ n ≤ 7) (hk : node < n) (hr : 1 ≤ r ∧ r ≤ 1073741824) (hd : 0 ≤ d ∧ d < n) (hs : 0 ≤ k ∧ k < 4096) (hv : v.size ≤ 1000) :
    ∃ L', adR ⟨n, 0, L⟩ node r d k v = ((!ch && maj (set ||| 2 ^ node) n, 0), ⟨n, 0, L'⟩) ∧ Mj n r d k v (set ||| 2 ^ node) (maj (set ||| 2 ^ node) n) L' ∧
      (kget k L').c = maj (set ||| 2 ^ node) n ∧ (kget k L').v = (if maj (set ||| 2 ^ node) n = true then v else ⟨#[]⟩) ∧ (kget k L').r = r ∧ (kget k L').d = d ∧ (kget k L').set = set ||| 2 ^ node ∧ opn L' = (if maj (set ||| 2 ^ node) n = true then [] else [k]) ∧ (maj (set ||| 2 ^ node) n = false → ch = false) := by
  obtain ⟨h1, h2, h3⟩ := h
  have h128 : set < 128 := Nat.lt_of_lt_of_le h1 (Nat.le_trans (Nat.pow_le_pow_right (by decide) hn.2) (by decide))
  have hmono : ch = true → maj (set ||| 2 ^ node) n = true := fun hc => maj_or h128 (by omega) (by rw [← h2]; exact hc)
  have key : ∀ e : Kn, kget k L = e → (∀ e', put k e' L = [(k, e')]) → ¬ ordB (r, d) (e.r, e.d) < 0 → ¬ adBad e r d v → adSet e r d node = set ||| 2 ^ node → e.c = ch → (e.v = if ch = true then v else ⟨#[]⟩) →
      adR ⟨n, 0, L⟩ node r d k v = ((!ch && maj (set ||| 2 ^ node) n, 0), ⟨n, 0, [(k, ⟨maj (set ||| 2 ^ node) n, if maj (set ||| 2 ^ node) n = true then v else ⟨#[]⟩, r, d, v, set ||| 2 ^ node⟩)]⟩) := by
    intro e he hp hor hb hset hc hvv
    subst he
    have hnow : adNow (kget k L) r d node n = (!ch && maj (set ||| 2 ^ node) n) := by unfold adNow; rw [hset, hc]; exact Bool.and_comm _ _
    have hkn : adKn (kget k L) r d node n v = ⟨maj (set ||| 2 ^ node) n, if maj (set ||| 2 ^ node) n = true then v else ⟨#[]⟩, r, d, v, set ||| 2 ^ node⟩ := by
      unfold adKn
      rw [hnow, hset, hc, hvv]
      cases ch with
      | true => rw [hmono rfl]; rfl
      | false => cases maj (set ||| 2 ^ node) n <;> rfl
    rw [adR_yes (s := ⟨n, 0, L⟩) (adCM hn hk hr hd hs hv) hor hb]
    show ((adNow (kget k L) r d (Int.toNat (node : Int)) n, 0), (⟨n, 0, put k (adKn (kget k L) r d (Int.toNat (node : Int)) n v) L⟩ : LSt)) = _
    rw [Int.toNat_natCast, hnow, hkn, hp]
  refine ⟨[(k, ⟨maj (set ||| 2 ^ node) n, if maj (set ||| 2 ^ node) n = true then v else ⟨#[]⟩, r, d, v, set ||| 2 ^ node⟩)], ?_, ⟨bit_ltN h1 hk, rfl, .inr rfl⟩, ?_, ?_, ?_, ?_, ?_, ?_, ?_⟩
  · rcases h3 with ⟨rfl, rfl⟩ | rfl
    · have hc0 : ch = false := by rw [h2]; exact maj_zero n
      refine key kn0 rfl (fun _ => rfl) ?_ ?_ ?_ hc0.symm (by rw [hc0]; rfl)
      · show ¬ ordB (r, d) (0, 0) < 0
        unfold ordB firstI cmpI
        simp only
        have h5 : ¬ r < 0 := by omega
        have h6 : ¬ r ≤ 0 := by omega
        have h7 : 0 < r := by omega
        simp [h5, h6, h7]
      · rintro (⟨h4, _⟩ | ⟨h4, _⟩)
        · have h4 : (0 : Int) = r := h4; omega
        · cases h4
      · unfold adSet
        rw [if_neg (by rintro ⟨h4, _⟩; have h4 : (0 : Int) = r := h4; omega)]
    · refine key _ (kgetM k _) (fun e' => ?_) ?_ ?_ ?_ rfl rfl
      · simp [put, del, insS]
      · show ¬ ordB (r, d) (r, d) < 0
        unfold ordB firstI cmpI
        simp
      · rintro (⟨_, _, h6⟩ | ⟨h4, h5⟩)
        · exact h6 rfl
        · have h4 : ch = true := h4
          rw [h4] at h5
          exact h5 rfl
      · unfold adSet
        rw [if_pos ⟨rfl, rfl⟩]
  all_goals first | (rw [kgetM]; done) | (rw [kgetM]) | skip
  · unfold opn
    cases maj (set ||| 2 ^ node) n <;> rfl
  · intro hm
    cases ch with
    | false => rfl
    | true => rw [hmono rfl] at hm; cases hm
end Go.Proofs.Ytnnadpbfidfhoaa
