/- The plain laws of LearnNewer: votes of several ballots at one slot, none with a majority. -/
import Derived.Test.YtnnadpbfidfhoaaLearnP
import Derived.Laws.BytesArg
set_option linter.unusedVariables false
set_option linter.unusedSimpArgs false
namespace Go.Proofs.Ytnnadpbfidfhoaa
open Go.RowKit Go.Maps Go.Shelf Go.ChangeShapes Go.WideShapes Go.Deep

/-- The value that is voted for in a round. -/
def vr (r : Nat) : ByteArray := ⟨#[118, (97 + r).toUInt8]⟩
def cntB (x i : Nat) : Nat := (List.range i).countP fun j => x.testBit j
theorem cntB_pop0 : ∀ n : Nat, n < 8 → ∀ x : Nat, x < 2 ^ n → cntB x n = pop x := by decide +kernel
theorem cntB_succ0 : ∀ x : Nat, x < 128 → ∀ i : Nat, i < 7 → cntB x (i + 1) = cntB x i + (if x.testBit i then 1 else 0) := by decide +kernel
theorem cntB_le (x i : Nat) : cntB x i ≤ i := by
  unfold cntB
  exact Nat.le_trans List.countP_le_length (by simp)
theorem maj_two {x n : Nat} : maj x n = decide (n < 2 * pop x) := by
  unfold maj
  rw [decide_eq_decide]
  omega

/-- The state: no slot, or slot 7 with the votes set of the greatest round g. -/
def Nw (n g set : Nat) (L : KL) : Prop := g = 0 ∧ set = 0 ∧ L = [] ∨ 1 ≤ g ∧ g ≤ 16 ∧ set < 2 ^ n ∧ L = [(7, ⟨false, ⟨#[]⟩, g, 0, vr g, set⟩)]
theorem vr_size (r : Nat) : (vr r).size = 2 := rfl
theorem adC7 {n node r : Nat} {L : KL} (hn : 1 ≤ n ∧ n ≤ 7) (hk : node < n) (hr : 1 ≤ r ∧ r ≤ 16) : adC ⟨n, 0, L⟩ node r 0 7 (vr r) = 0 := by
  unfold adC
  rw [isV3 hn hk (by omega)]
  unfold lchk
  rw [if_neg (by simp), if_neg (by rw [vr_size]; omega), if_neg (by simp)]
theorem kget7 (e : Kn) : kget 7 [(7, e)] = e := rfl
/-- An older vote is passed over. -/
theorem nw_old {n g set node r : Nat} {L : KL} (h : Nw n g set L) (hn : 1 ≤ n ∧ n ≤ 7) (hk : node < n) (hr : 1 ≤ r ∧ r ≤ 16) (ho : r < g) : adR ⟨n, 0, L⟩ node r 0 7 (vr r) = ((false, 0), ⟨n, 0, L⟩) := by
  rcases h with ⟨h0, _⟩ | ⟨h1, h2, h3, rfl⟩
  · omega
  · refine adR_old (adC7 hn hk hr) ?_
    show ordB ((r : Int), 0) ((g : Int), 0) < 0
    exact (ord0 r g).2 (by omega)
/-- A vote that counts, without a majority. -/
theorem nw_new {n g set node r : Nat} {L : KL} (h : Nw n g set L) (hn : 1 ≤ n ∧ n ≤ 7) (hk : node < n) (hr : 1 ≤ r ∧ r ≤ 16) (ho : ¬ r < g) (hm : maj ((if g < r then 0 else set) ||| 2 ^ node) n = false) :
    ∃ L', adR ⟨n, 0, L⟩ node r 0 7 (vr r) = ((false, 0), ⟨n, 0, L'⟩) ∧ Nw n r ((if g < r then 0 else set) ||| 2 ^ node) L' := by
  have hsl : set < 2 ^ n := by
    rcases h with ⟨_, h0, _⟩ | ⟨_, _, h3, _⟩
    · rw [h0]; exact Nat.pow_pos (by decide)
    · exact h3
  have hav : (if g < r then 0 else set) ||| 2 ^ node < 2 ^ n := by
    refine bit_ltN ?_ hk
    split
    · exact Nat.pow_pos (by decide)
    · exact hsl
  have key : ∀ e : Kn, kget 7 L = e → (∀ e', put 7 e' L = [(7, e')]) → ¬ ordB ((r : Int), 0) (e.r, e.d) < 0 → ¬ adBad e r 0 (vr r) → adSet e r 0 node = (if g < r then 0 else set) ||| 2 ^ node → e.c = false → e.v = ⟨#[]⟩ →
      ∃ L', adR ⟨n, 0, L⟩ node r 0 7 (vr r) = ((false, 0), ⟨n, 0, L'⟩) ∧ Nw n r ((if g < r then 0 else set) ||| 2 ^ node) L' := by
    intro e he hp hor hb hset hc hv
    subst he
    have hnow : adNow (kget 7 L) r 0 node n = false := by unfold adNow; rw [hset, hm]; rfl
    have hkn : adKn (kget 7 L) r 0 node n (vr r) = ⟨false, ⟨#[]⟩, r, 0, vr r, (if g < r then 0 else set) ||| 2 ^ node⟩ := by
      unfold adKn
      rw [hnow, hset, hc, hv]
      rfl
    refine ⟨[(7, ⟨false, ⟨#[]⟩, r, 0, vr r, (if g < r then 0 else set) ||| 2 ^ node⟩)], ?_, .inr ⟨hr.1, hr.2, hav, rfl⟩⟩
    rw [adR_yes (s := ⟨n, 0, L⟩) (adC7 hn hk hr) hor hb]
    show ((adNow (kget 7 L) r 0 (Int.toNat (node : Int)) n, 0), (⟨n, 0, put 7 (adKn (kget 7 L) r 0 (Int.toNat (node : Int)) n (vr r)) L⟩ : LSt)) = _
    rw [Int.toNat_natCast, hnow, hkn, hp]
  rcases h with ⟨rfl, rfl, rfl⟩ | ⟨h1, h2, h3, rfl⟩
  · refine key kn0 rfl (fun _ => rfl) ?_ ?_ ?_ rfl rfl
    · exact fun hc => by have := (ord0 r 0).1 hc; omega
    · rintro (⟨h4, _⟩ | ⟨h4, _⟩)
      · have h4 : (0 : Int) = (r : Int) := h4; omega
      · cases h4
    · unfold adSet
      rw [if_neg (by rintro ⟨h4, _⟩; have h4 : (0 : Int) = (r : Int) := h4; omega)]
      simp
  · refine key ⟨false, ⟨#[]⟩, g, 0, vr g, set⟩ rfl (fun _ => rfl) ?_ ?_ ?_ rfl rfl
    · exact fun hc => by have := (ord0 r g).1 hc; omega
    · rintro (⟨h4, _, h6⟩ | ⟨h4, _⟩)
      · have h4 : (g : Int) = (r : Int) := h4
        have : g = r := by omega
        subst this
        exact h6 rfl
      · cases h4
    · unfold adSet
      by_cases hgr : g = r
      · subst hgr
        rw [if_pos ⟨rfl, rfl⟩, if_neg (by omega)]
      · rw [if_neg (by rintro ⟨h4, _⟩; have h4 : (g : Int) = (r : Int) := h4; omega), if_pos (by omega)]
theorem Nw.at_ {n g set : Nat} {L : KL} (h : Nw n g set L) (h0 : 0 < g) : kget 7 L = ⟨false, ⟨#[]⟩, g, 0, vr g, set⟩ ∧ opn L = [7] := by
  rcases h with ⟨h1, _⟩ | ⟨_, _, _, rfl⟩
  · omega
  · exact ⟨rfl, rfl⟩
theorem Nw.lt {n g set : Nat} {L : KL} (h : Nw n g set L) : set < 2 ^ n ∧ g ≤ 16 := by
  rcases h with ⟨h1, h0, _⟩ | ⟨_, h2, h3, _⟩
  · rw [h0]; exact ⟨Nat.pow_pos (by decide), by omega⟩
  · exact ⟨h3, h2⟩
theorem pop_le {n x : Nat} (hn : 1 ≤ n ∧ n ≤ 7) (h : x < 2 ^ n) : pop x ≤ 7 := by
  rw [← cntB_pop0 n (by omega) x h]
  exact Nat.le_trans (cntB_le x n) hn.2
theorem cnt_bit : ∀ x : Nat, x < 128 → ∀ j : Nat, j < 7 → bits BinOp.and IntKind.u64 ((x : Int) / 2 ^ j) 1 = (if x.testBit j then 1 else 0) := by decide +kernel
theorem cnt_step {x j : Nat} (hx : x < 128) (hj : j < 7) : wrap64 ((cntB x j : Int) + wrap64 (bits BinOp.and IntKind.u64 ((x : Int) / 2 ^ j) 1)) = (cntB x (j + 1) : Int) := by
  rw [cnt_bit x hx j hj, cntB_succ0 x hx j hj]
  have := cntB_le x j
  have e : ∀ z : Int, 0 ≤ z → z < 100 → wrap64 z = z := fun z h1 h2 => by unfold wrap64; omega
  split
  · rw [e 1 (by omega) (by omega), e _ (by omega) (by omega)]; omega
  · rw [e 0 (by omega) (by omega), e _ (by omega) (by omega)]; omega
/-- The letter of a round as text. -/
def cr (r : Nat) : ByteArray := ⟨#[(97 + r).toUInt8]⟩
theorem strR : ∀ k : Nat, k < 17 → strOfNums [97 + (k : Int)] = cr k := by decide +kernel
theorem cr_vr : ∀ k : Nat, k < 17 → (⟨#[118]⟩ : ByteArray) ++ cr k = vr k := by decide +kernel
theorem convR (k : Nat) (w : World) (hk : k < 17) : (convert 22 9 (.slice (some ⟨w.heap.size, 0, none⟩) 1 1)).run Try.prog (w.alloc (.cells #[.int .u8 (97 + (k : Int))] 5)) = .ok (.string (cr k)) (w.alloc (.cells #[.int .u8 (97 + (k : Int))] 5)) := by
  rw [← strR k hk]
  refine run_convert_bytes_arg _ _ _ Try.underlying22 Try.underlying5 w.heap.size 0 1 1 [97 + (k : Int)] (by simp) (fun i hi => ?_) _ Try.underlying9
  have : i = 0 := by omega
  subst this
  exact (Blk.new w 5 #[.int .u8 (97 + (k : Int))]).cell (i := 0) rfl
theorem Nw.fld {n g set : Nat} {L : KL} (h : Nw n g set L) (h0 : 0 < g) : (kget 7 L).r = (g : Int) ∧ (kget 7 L).d = 0 ∧ (kget 7 L).set = set ∧ (kget 7 L).c = false ∧ (kget 7 L).v = ⟨#[]⟩ ∧ opn L = [7] := by
  obtain ⟨h1, h2⟩ := h.at_ h0
  rw [h1]
  exact ⟨rfl, rfl, rfl, rfl, rfl, h2⟩
end Go.Proofs.Ytnnadpbfidfhoaa
