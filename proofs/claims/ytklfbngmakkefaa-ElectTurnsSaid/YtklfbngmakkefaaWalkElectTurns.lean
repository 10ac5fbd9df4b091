/- The walk of skaldlaw21.ElectTurns: it returns true, and writes nothing that was there. -/
import Derived.Test.YtklfbngmakkefaaElectW
import Derived.OpenShut
import Derived.Deep.OwnRows
set_option linter.unusedVariables false
set_option linter.unusedSimpArgs false
namespace Go.Proofs.Ytklfbngmakkefaa.electTurns
open Go.RowKit Go.Shelf
/-- The first node of the round r. -/
def fn0 (k r : Int) : Int := nth k (fst k r) 0
theorem fn0_bd {k r : Int} (h1 : 1 ≤ k) : 0 ≤ fn0 k r ∧ fn0 k r < k := nth_bd h1 0
theorem fn0_pos {k r : Int} (h1 : 1 ≤ k) (h2 : k ≤ 7) : (fn0 k r + r) % k = 0 := pos_nth h1 h2 0 (by omega)
theorem fn0_ne {k r : Int} {i j : Nat} (h1 : 1 ≤ k) (h2 : k ≤ 7) (hi : (i : Int) < k) (hj : j < i) : fn0 k (r + j) ≠ fn0 k (r + i) := by
  intro e
  have a := fn0_pos (r := r + j) h1 h2
  have b := fn0_pos (r := r + i) h1 h2
  rw [e] at a
  obtain ⟨q1, q2⟩ := fn0_bd (r := r + i) h1
  generalize fn0 k (r + i) = z at *
  rcases seven h1 h2 with rfl | rfl | rfl | rfl | rfl | rfl | rfl <;> omega
/-- x was the first node of one of i rounds from r on. -/
def sn (k r : Int) (i : Nat) (x : Nat) : Bool := (List.range i).any fun j => fn0 k (r + j) == (x : Int)
theorem sn_zero (k r : Int) (x : Nat) : sn k r 0 x = false := rfl
theorem sn_succ (k r : Int) (i x : Nat) : sn k r (i + 1) x = (sn k r i x || (fn0 k (r + i) == (x : Int))) := by simp [sn, List.range_succ]
theorem sn_new {k r : Int} {i : Nat} (h1 : 1 ≤ k) (h2 : k ≤ 7) (hi : (i : Int) < k) : sn k r i (fn0 k (r + i)).toNat = false := by
  have := (fn0_bd (r := r + i) h1).1
  simp only [sn, List.any_eq_false, List.mem_range]
  intro j hj
  have := fn0_ne (r := r) h1 h2 hi hj
  simp
  omega
theorem fst_next {k r : Int} (h1 : 1 ≤ k) (h2 : k ≤ 7) (i : Nat) : nth k (fst k r) i = nth k (fst k (r + k)) i := by
  unfold nth fst; rcases seven h1 h2 with rfl | rfl | rfl | rfl | rfl | rfl | rfl <;> omega
theorem wv_next {k j r : Int} (h1 : 1 ≤ k) (h2 : k ≤ 7) : wv j (r + 1) k = wv ((j + 1) % k) r k := by
  unfold wv; rcases seven h1 h2 with rfl | rfl | rfl | rfl | rfl | rfl | rfl <;> omega
theorem wait_q (k r n : Int) (w : World) (h : okW k r n) :
    Calls Try.prog 11 #[.int .i64 k, .int .i64 r, .int .i64 n] w fun e w' => e = .returned (.tuple #[.int .i64 (wv k r n), .int .i64 0]) ∧ Below w.heap.size w w' := wait_yes k r n w h
theorem info_bool : (Try.prog.info? 4).map (fun i => (i.zero, i.size, i.bytes)) = some (some (.bool false), 1, 1) := by kernel_rfl

set_option maxRecDepth 100000 in
set_option maxHeartbeats 2000000 in
theorem walk0 (a0 r : Int) (h0 : 0 ≤ a0) (h1 : a0 ≤ 255) (g0 : 0 ≤ r) (g1 : r ≤ 4294967295) (w : World) :
    Calls Try.prog 6 #[.int .u8 a0, .int .u32 r] w fun e w' => e = .returned (.bool true) ∧ Below w.heap.size w w' := by
  obtain ⟨K, hK⟩ : ∃ K : Nat, 1 + a0 % 7 = (K : Int) := ⟨(1 + a0 % 7).toNat, by omega⟩
  have hk1 : 1 ≤ (K : Int) := by omega
  have hk2 : (K : Int) ≤ 7 := by omega
  have HK := Lib.hid hK
  clear hK
  have hmk := fun W => run_make_row' (P := Try.prog) 38 4 (.bool false) 1 Try.underlying38 info_bool rfl .i64 .i64 K (by omega) (by omega) W
  have HM := Lib.hid hmk
  clear hmk
  go_enter Try.func6, Try.ntmps6
  go_wp2_with fail
  rw [HK.out, HM.out]
  go_wp2_with fail
  have hr0 := World.rowIs_made w (.bool false) K 4
  have hB0 : Below w.heap.size w (w.alloc (.cells (madeCells #[.bool false] K) 4)) := (Below.refl _ _).alloc (Nat.le_refl _) _
  have HR0 := Lib.hid hr0
  clear hr0
  generalize hW1 : w.alloc (.cells (madeCells #[.bool false] K) 4) = W1 at *
  have hS1 : w.heap.size < W1.heap.size := by rw [← hW1]; simp
  clear hW1 HM
  go_loopw [8, 9, 10, 11, 12, 13, 14, 15, 16, 17, 27] (fun _ _ _ _ _ _ _ _ _ _ c wr => ∃ i : Nat, i ≤ K ∧ c = .int .i64 i ∧ wr.rowIs w.heap.size 4 K (fun x => .bool (sn K r i x)) ∧ Below w.heap.size w wr)
    (fun _ _ _ _ _ _ _ _ _ _ c _ => K - (intOf c).toNat)
  case atStart => exact ⟨0, by omega, rfl, HR0.out.congr fun i _ => by rw [sn_zero], hB0⟩
  case round =>
    obtain ⟨i, hi, rfl, hrow, hB⟩ := hrel
    have HROW := Lib.hid hrow
    clear hrow
    by_cases hlt : i < K
    · go_wp2_with fail
      refine (order_yes _ _ _ hk1 hk2 (by omega) (by omega)).mono ?_
      rintro e w2 ⟨v, rfl, ⟨g, cap, rfl, r1, r2, r3⟩, hb2⟩
      have HC := Lib.hid r3
      clear r3
      go_wp2_with fail
      refine (order_yes _ _ _ hk1 hk2 (by omega) (by omega)).mono ?_
      rintro e w3 ⟨v, rfl, ⟨g', cap', rfl, r1', r2', r3'⟩, hb3⟩
      have HC' := Lib.hid r3'
      clear r3'
      obtain ⟨x0, hx0⟩ : ∃ x0, fn0 K (r + i) = x0 := ⟨_, rfl⟩
      have hbd := fn0_bd (k := (K : Int)) (r := r + i) hk1
      rw [hx0] at hbd
      obtain ⟨x1, x2⟩ := hbd
      have hnew := sn_new (r := r) hk1 hk2 (show (i : Int) < K by omega)
      rw [hx0] at hnew
      have HX0 := Lib.hid hx0
      have HNEW := Lib.hid hnew
      have hcg : w3.cell? ⟨g, 0, none⟩ = some (.int .i64 x0) := by rw [← hx0]; exact bcell hb3 (HC.out 0 (by omega))
      have hrow3 := HROW.out.of_block (((hb2.trans (hb3.mono hb2.size)).block _ HROW.out.lt))
      have HROW3 := Lib.hid hrow3
      clear hrow3 hnew hx0
      have hpos : (0 : Int) < (K : Int) := by omega
      have hne : ((K : Int) != K) = false := by simp
      go_wp2_with (go_at_call 26; refine (equal_yes _ _ _ _ _ (nth K (fst K (r + i))) (nth K (fst K (r + i + K))) _ (by omega) (fun q hq => bcell hb3 (HC.out q (by omega))) (fun q hq => HC'.out q (by omega)) (fun q _ => fst_next hk1 hk2 q)).mono ?_; rintro e w4 ⟨rfl, hb4⟩; have hcg4 := bcell hb4 hcg; have hrow4 := HROW3.out.of_block (hb4.block _ HROW3.out.lt); have HROW4 := Lib.hid hrow4; have hs0 := hrow4.cell (i := x0.toNat) (by omega); rw [HNEW.out] at hs0; have hs1 := hrow4.frozen x0.toNat; clear hrow4)
      generalize hW5 : w4.setCell ⟨w.heap.size, x0.toNat, none⟩ (.bool true) = W5
      have HW5 := Lib.hid hW5
      clear hW5
      have hrow5 : W5.rowIs w.heap.size 4 K (fun x => .bool (sn K r (i + 1) x)) := by
        rw [← HW5.out]
        refine (HROW4.out.set x0.toNat (.bool true)).congr fun q hq => ?_
        simp only [sn_succ, HX0.out]
        by_cases e : q = x0.toNat
        · rw [if_pos e]
          have : ((x0 : Int) == (q : Int)) = true := by simp; omega
          rw [this, Bool.or_true]
        · rw [if_neg e]
          have : ((x0 : Int) == (q : Int)) = false := by simp; omega
          rw [this, Bool.or_false]
      have hB5 : Below w.heap.size w W5 := by
        rw [← HW5.out]
        exact (((hB.trans (hb2.mono hB.size)).trans (hb3.mono (Nat.le_trans hB.size hb2.size))).trans (hb4.mono (Nat.le_trans (Nat.le_trans hB.size hb2.size) hb3.size))).setCell (p := ⟨w.heap.size, x0.toNat, none⟩) (Nat.le_refl _) _
      have HROW5 := Lib.hid hrow5
      clear hrow5
      go_loopw [13, 14, 15, 16, 17, 93] (fun _ _ _ _ _ c wi => ∃ j : Nat, j ≤ K ∧ c = .int .i64 j ∧ Below W5.heap.size W5 wi)
        (fun _ _ _ _ _ c _ => K - (intOf c).toNat)
      case atStart => exact ⟨0, by omega, rfl, Below.refl _ _⟩
      case round =>
        obtain ⟨j, hj, rfl, hBi⟩ := hrel
        by_cases hlt2 : j < K
        · have m1 : 0 ≤ ((j : Int) + 1) % K := Int.emod_nonneg _ (by omega)
          have m2 : ((j : Int) + 1) % K < K := Int.emod_lt_of_pos _ (by omega)
          have hn := wv_next (j := j) (r := r + i) hk1 hk2
          have hne2 : (wv j (r + i + 1) K != wv (((j : Int) + 1) % K) (r + i) K) = false := by rw [hn]; simp
          clear hn
          go_wp2_with fail
          refine (wait_q _ _ _ _ ⟨hk1, hk2, by omega, by omega, by omega⟩).mono ?_
          rintro e w6 ⟨rfl, hb6⟩
          go_wp2_with fail
          refine (wait_q _ _ _ _ ⟨hk1, hk2, m1, m2, by omega⟩).mono ?_
          rintro e w7 ⟨rfl, hb7⟩
          go_wp2_with fail
          go_roundw
          case rel => exact ⟨j + 1, by omega, by go_num, (hBi.trans (hb6.mono hBi.size)).trans (hb7.mono (Nat.le_trans hBi.size hb6.size))⟩
          case measure => simp [intOf]; omega
        · have e : j = K := by omega
          go_wp2_with fail
          go_roundw
          case rel => exact ⟨i + 1, by omega, by go_num, HROW5.out.of_block (hBi.block _ HROW5.out.lt), hB5.trans (hBi.mono hB5.size)⟩
          case measure => simp [intOf]; omega
    · obtain rfl : i = K := by omega
      go_wp2_with (go_at_call 13; refine (works_any _).mono ?_; rintro e w4 ⟨rfl, hb4⟩)
      go_ret
      exact ⟨rfl, hB.trans (hb4.mono hB.size)⟩
theorem walk (a0 a1 : Int) (w0 : (Lit.int .u8 a0).wf = true) (w1 : (Lit.int .u32 a1).wf = true) (w : World) :
    Calls Try.prog 6 #[.int .u8 a0, .int .u32 a1] w fun e w' => e = .returned (.bool true) ∧ Below w.heap.size w w' := by
  have h := bounds_u8 w0
  have h2 : 0 ≤ a1 ∧ a1 ≤ 4294967295 := by simp [Lit.wf, IntKind.min, IntKind.max, IntKind.signed, IntKind.bits] at w1; omega
  exact walk0 a0 a1 h.1 h.2 h2.1 h2.2 w
end Go.Proofs.Ytklfbngmakkefaa.electTurns
