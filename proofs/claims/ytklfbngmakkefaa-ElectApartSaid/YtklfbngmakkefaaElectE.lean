/- The iterator of elect.turns. -/
import Derived.Test.YtklfbngmakkefaaElectD
import Derived.RangeFuncNested
import Derived.RangeFuncBound
import Derived.RangeFuncCalls
import Derived.RangeFuncLeaves
import Derived.RangeFuncBox
import Derived.Shelf.Abstract
import Derived.Shelf.RegionOpen
import Derived.OwnWalkIn
import Derived.TacticsInMore
import Derived.LoopNIn
import Derived.LoopIn
import Derived.Maps.AppendAt
import Derived.Sort.QuietIn
set_option linter.unusedVariables false
set_option linter.unusedSimpArgs false
namespace Go.Proofs.Ytklfbngmakkefaa
open Go.RowKit Go.Shelf
attribute [local go_sem] Oper.semAt_some

/-- elect.turns: its parameters are boxed; the function value captures the boxes. -/
theorem turns_in (F : Fence) (n : Nat) (hf : F.fn 33) (hro : F.round = none) (a b : Int) (w : World) :
    CallsIn F n Try.prog 33 #[.int .i64 a, .int .i64 b] w fun e w' =>
      e = .returned (.func (.func 37) #[] #[.pointer (some ⟨w.heap.size, 0, none⟩), .pointer (some ⟨w.heap.size + 1, 0, none⟩)]) ∧
      w' = (w.alloc (.cells #[.int .i64 a] 3)).alloc (.cells #[.int .i64 b] 3) := by
  refine callsIn_of_wp Try.func33 rfl hf ?_ hro
  simp only [Try.ntmps33, List.size_toArray, List.length_cons, List.length_nil, Nat.reduceAdd, Nat.reduceSub, Array.replicate_succ, Array.replicate_zero, List.push_toArray, List.append_toArray, List.nil_append, List.cons_append]
  gi_wp2
  go_ret
  exact ⟨rfl, rfl⟩

/-- The i-th node of a round whose first node is f. -/
def nth (n f : Int) (i : Nat) : Int := (f + i) % n
/-- The first k nodes. -/
def upto (n f : Int) (k : Nat) : List Int := (List.range k).map (nth n f)
theorem upto_succ (n f : Int) (k : Nat) : upto n f (k + 1) = upto n f k ++ [nth n f k] := by simp [upto, List.range_succ]
theorem upto_length (n f : Int) (k : Nat) : (upto n f k).length = k := by simp [upto]
/-- The first node of a round. -/
def fst (n r : Int) : Int := (n - r % n) % n

theorem drewN_grown (W : World) (k : Nat) (row : Option Nat) : W.grownBy (W.drewN k) row := ⟨rfl, rfl, rfl, Nat.le_refl _, fun _ _ _ => rfl⟩

set_option maxRecDepth 100000 in
set_option maxHeartbeats 1000000 in
theorem turns1_in (F : Fence) (m : Nat) (hf : F.fn 37) (hro : F.round = none) (hm : 1 ≤ m) (l B : Nat) (n r f0 : Int) (h1 : 1 ≤ n) (h2 : n ≤ 7) (h3 : 0 ≤ r) (hr : r ≤ 9223372036854775807)
    (hf0 : Hid ((n - r % n) % n = f0)) (J Jx : List Int → World → Prop) (B0 : Nat) (hJ : AbidesFrom B0 J)
    (hY : ∀ pre x W, J pre W → pre.length < n.toNat → YieldAt F (m - 1) Try.prog l #[.int .i64 x] W fun e W' =>
      (e = .returned (.bool true) ∧ J (pre ++ [x]) W' ∧ W'.cell? ⟨B, 0, none⟩ = W.cell? ⟨B, 0, none⟩) ∨ (e = .returned (.bool false) ∧ Jx (pre ++ [x]) W'))
    (W : World) (hc : W.cell? ⟨B, 0, none⟩ = some (.int .i64 n)) (hc2 : W.cell? ⟨B + 1, 0, none⟩ = some (.int .i64 r)) (h0 : J [] W) :
    CallsIn F m Try.prog 37 #[.func (.yield l) #[] #[], .pointer (some ⟨B, 0, none⟩), .pointer (some ⟨B + 1, 0, none⟩)] W fun e W' => (∃ v, e = .returned v) ∧
      ((∃ ys, ys = upto n f0 n.toNat ∧ J ys W') ∨ (∃ pre, (∃ k, pre = upto n f0 k) ∧ Jx pre W')) := by
  have a1 : 0 ≤ r % n := Int.emod_nonneg _ (by omega)
  have a2 : r % n < n := Int.emod_lt_of_pos r (show 0 < n by omega)
  have a3 : 0 ≤ f0 := by rw [← hf0.out]; exact Int.emod_nonneg _ (by omega)
  have a4 : f0 < n := by rw [← hf0.out]; exact Int.emod_lt_of_pos _ (by omega)
  obtain ⟨fn, dep, al, rd⟩ := F
  obtain rfl : rd = none := hro
  refine callsIn_of_wp Try.func37 rfl hf ?_ rfl
  simp only [Try.ntmps37, List.size_toArray, List.length_cons, List.length_nil, Nat.reduceAdd, Nat.reduceSub, Array.replicate_succ, Array.replicate_zero, List.push_toArray, List.append_toArray, List.nil_append, List.cons_append]
  gi_wp2
  gi_quiet (fail)
  rename_i nq
  have h0' : J [] (W.drewN nq) := hJ _ _ _ none h0 (drewN_grown _ _ _) (fun r e => by cases e)
  gi_wp2
  rw [hf0.out]
  gi_loopw [5, 14] (fun _ c wr => ∃ k : Nat, k ≤ n.toNat ∧ c = .int .i64 k ∧ J (upto n f0 k) wr ∧ wr.cell? ⟨B, 0, none⟩ = some (.int .i64 n)) (fun _ c _ => n.toNat - (intOf c).toNat)
  case atStart => exact ⟨0, Nat.zero_le _, rfl, h0', hc⟩
  case round =>
    obtain ⟨k, hk, rfl, hJk, hcn⟩ := hrel
    by_cases hlt : (k : Int) < n
    · have hkn : k < n.toNat := by omega
      obtain ⟨fn, tmps, assign, body, hy, hR⟩ := hY (upto n f0 k) ((f0 + k) % n) wr hJk (by rw [upto_length]; exact hkn)
      gi_wp2
      refine hR.mono ?_
      rintro e W3 (⟨rfl, hJ3, hk3⟩ | ⟨rfl, hJx3⟩)
      · have hq3 : W3.cell? ⟨B, 0, none⟩ = some (.int .i64 n) := hk3.trans hcn
        gi_wp2
        go_roundw
        case rel => exact ⟨k + 1, by omega, by go_num, by rw [upto_succ]; exact hJ3, hq3⟩
        case measure => simp [intOf]; omega
      · gi_wp2
        refine bodyPost_ret (results_none rfl _ _ _) rfl ?_
        exact ⟨⟨_, rfl⟩, .inr ⟨_, ⟨k + 1, (upto_succ _ _ _).symm⟩, hJx3⟩⟩
    · gi_wp2
      go_end0
      have e : k = n.toNat := by omega
      exact ⟨⟨_, rfl⟩, .inl (by rw [← e]; exact hJk)⟩

/-- **elect.turns HANDS BACK A VALUE THAT YIELDS THE NODES OF THE ROUND**. -/
theorem turns_stops (F : Fence) (m : Nat) (hf : F.fn 37) (hro : F.round = none) (hm : 1 ≤ m) (B : Nat) (n r f0 : Int) (h1 : 1 ≤ n) (h2 : n ≤ 7) (h3 : 0 ≤ r) (hr : r ≤ 9223372036854775807)
    (hf0 : Hid ((n - r % n) % n = f0)) (w : World) (hB : B + 1 < w.heap.size)
    (hc : w.cell? ⟨B, 0, none⟩ = some (.int .i64 n)) (hc2 : w.cell? ⟨B + 1, 0, none⟩ = some (.int .i64 r)) :
    SeqStopsK F m Try.prog 37 #[.pointer (some ⟨B, 0, none⟩), .pointer (some ⟨B + 1, 0, none⟩)] (fun x : Int => #[Value.int .i64 x]) (fun W W' => W'.cell? ⟨B, 0, none⟩ = W.cell? ⟨B, 0, none⟩) (fun ys => ys = upto n f0 n.toNat) (fun pre => ∃ k, pre = upto n f0 k) n.toNat w :=
  fun l J Jx W hW hJ _ hY h0 =>
    turns1_in F m hf hro hm l B n r f0 h1 h2 h3 hr hf0 J Jx _ hJ hY W ((hW.cell (p := ⟨B, 0, none⟩) (by simp; omega)).trans hc) ((hW.cell (p := ⟨B + 1, 0, none⟩) (by simp; omega)).trans hc2) h0
end Go.Proofs.Ytklfbngmakkefaa
