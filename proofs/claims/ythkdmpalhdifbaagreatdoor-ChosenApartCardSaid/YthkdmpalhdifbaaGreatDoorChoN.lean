/- slices.Backward of a slice of ballots: its iterator. -/
import Derived.Test.YthkdmpalhdifbaaGreatDoorChoE
set_option linter.unusedVariables false
set_option linter.unusedSimpArgs false
namespace Go.Proofs.YthkdmpalhdifbaaGreatDoor
open Go.RowKit Go.Shelf Go.Sort Go.Maps
attribute [local go_sem] Oper.semAt_some

abbrev Bs := { b : Ba // in64 b.1 ∧ in64 b.2 }
instance (x : Int) : Decidable (in64 x) := by unfold in64; infer_instance
def toBs (b : Ba) : Bs := if h : in64 b.1 ∧ in64 b.2 then ⟨b, h⟩ else ⟨(0, 0), by unfold in64; omega⟩
theorem toBs_ok {b : Ba} (h : in64 b.1 ∧ in64 b.2) : (toBs b).1 = b := by unfold toBs; rw [dif_pos h]
/-- What has come when k rounds are over: from the last element on. -/
def bk (L : List Ba) (k : Nat) : List (Int × Bs) := (List.range k).map fun j => (((L.length - 1 - j : Nat) : Int), toBs (L.getD (L.length - 1 - j) (0, 0)))
theorem bk_succ (L : List Ba) (k : Nat) : bk L (k + 1) = bk L k ++ [(((L.length - 1 - k : Nat) : Int), toBs (L.getD (L.length - 1 - k) (0, 0)))] := by simp [bk, List.range_succ]
theorem bk_length (L : List Ba) (k : Nat) : (bk L k).length = k := by simp [bk]
/-- What lay below N lies as it lay, but for the block q. -/
def KpQ (N q : Nat) (A B : World) : Prop := ∀ i, i < N → i ≠ q → B.heap[i]? = A.heap[i]?
theorem KpQ.refl (N q : Nat) (A : World) : KpQ N q A A := fun _ _ _ => rfl
theorem KpQ.trans {N q : Nat} {A B C : World} (h : KpQ N q A B) (k : KpQ N q B C) : KpQ N q A C := fun i hi hq => (k i hi hq).trans (h i hi hq)
theorem KpQ.cell {N q : Nat} {A B : World} (h : KpQ N q A B) {p : Addr} {v : Value} (h1 : p.block < N) (h2 : p.block ≠ q) (hc : A.cell? p = some v) : B.cell? p = some v := (World.cell?_of_block (h p.block h1 h2)).trans hc
abbrev encsB (x : Int × Bs) : Array Value := #[.int .i64 x.1, .agg #[.int .i64 x.2.1.1, .int .i64 x.2.1.2]]
/-- The slice in memory. -/
def BaAt (W : World) (A : Option Addr) (b : Nat) (L : List Ba) : Prop := 0 < L.length → A = some ⟨b, 0, none⟩ ∧ ∀ j, j < L.length → W.cell? ⟨b, j * 2, none⟩ = some (.int .i64 (L.getD j (0, 0)).1) ∧ W.cell? ⟨b, j * 2 + 1, none⟩ = some (.int .i64 (L.getD j (0, 0)).2)

set_option maxRecDepth 100000 in
set_option maxHeartbeats 2000000 in
theorem backward1_in (F : Fence) (n : Nat) (hf : F.fn 64) (hro : F.round = none) (hn : 1 ≤ n) (l Bx N q b cap : Nat) (A : Option Addr) (L : List Ba) (hok : ∀ x ∈ L, in64 x.1 ∧ in64 x.2) (hreach : L.length ≤ 1000000)
    (hb : b < N ∧ b ≠ q) (hbx : Bx < N ∧ Bx ≠ q) (J Jx : List (Int × Bs) → World → Prop)
    (hY : ∀ pre x W, J pre W → pre.length < L.length → YieldAt F (n - 1) Tryz.prog l (encsB x) W fun e W' =>
      (e = .returned (.bool true) ∧ J (pre ++ [x]) W' ∧ KpQ N q W W') ∨ (e = .returned (.bool false) ∧ Jx (pre ++ [x]) W'))
    (W : World) (hBs : W.cell? ⟨Bx, 0, none⟩ = some (.slice A L.length cap)) (hc : BaAt W A b L) (h0 : J [] W) :
    CallsIn F n Tryz.prog 64 #[.func (.yield l) #[] #[], .pointer (some ⟨Bx, 0, none⟩)] W fun e W' => (∃ v, e = .returned v) ∧
      ((∃ ys, ys = bk L L.length ∧ J ys W') ∨ (∃ pre, (∃ k, k ≤ L.length ∧ pre = bk L k) ∧ Jx pre W')) := by
  refine callsIn_of_wp Tryz.func64 rfl hf ?_ hro
  simp only [Tryz.ntmps64, List.size_toArray, List.length_cons, List.length_nil, Nat.reduceAdd, Nat.reduceSub, Array.replicate_succ, Array.replicate_zero, List.push_toArray, List.append_toArray, List.nil_append, List.cons_append]
  gi_wp2
  gi_loopw [3] (fun i wr => ∃ k : Nat, k ≤ L.length ∧ i = .int .i64 ((L.length : Int) - 1 - k) ∧ J (bk L k) wr ∧ KpQ N q W wr)
    (fun i _ => (intOf i + 1).toNat)
  case atStart => exact ⟨0, Nat.zero_le _, by go_num, h0, KpQ.refl _ _ _⟩
  case round =>
    obtain ⟨k, hk, rfl, hJs, hnx⟩ := hrel
    have hBs2 := hnx.cell (p := ⟨Bx, 0, none⟩) hbx.1 hbx.2 hBs
    by_cases hlt : k < L.length
    · obtain ⟨rfl, hcc⟩ := hc (by omega)
      obtain ⟨j, hj⟩ : ∃ j, j = L.length - 1 - k := ⟨_, rfl⟩
      obtain ⟨x, hx⟩ : ∃ x, x = L.getD j (0, 0) := ⟨_, rfl⟩
      have hjl : j < L.length := by omega
      have hxm : x ∈ L := by rw [hx, List.getD_eq_getElem?_getD, List.getElem?_eq_getElem hjl]; exact List.getElem_mem hjl
      obtain ⟨c0, c1⟩ := hcc j hjl
      have d0 := hnx.cell (p := ⟨b, j * 2, none⟩) hb.1 hb.2 c0
      have d1 := hnx.cell (p := ⟨b, j * 2 + 1, none⟩) hb.1 hb.2 c1
      rw [← hx] at d0 d1
      have hij : (L.length : Int) - 1 - (k : Int) = (j : Int) := by omega
      rw [hij]
      obtain ⟨fn, tmps, assign, body, hy, hR⟩ := hY _ ((j : Int), toBs x) wr hJs (by rw [bk_length]; exact hlt)
      dsimp only [encsB] at hy
      rw [toBs_ok (hok x hxm)] at hy
      have hbs : bk L k ++ [((j : Int), toBs x)] = bk L (k + 1) := by rw [bk_succ, hx, hj]
      rw [hbs] at hR
      clear hx hj c0 c1 hbs
      gi_wp2
      refine hR.mono ?_
      rintro e W3 (⟨rfl, hJ3, hk3⟩ | ⟨rfl, hJx3⟩)
      · gi_wp2
        go_roundw
        case rel => exact ⟨k + 1, by omega, by go_num, hJ3, hnx.trans hk3⟩
        case measure => simp [intOf]
      · gi_wp2
        refine bodyPost_ret (results_none rfl _ _ _) rfl ?_
        exact ⟨⟨_, rfl⟩, .inr ⟨_, ⟨k + 1, by omega, rfl⟩, hJx3⟩⟩
    · obtain rfl : k = L.length := by omega
      gi_wp2
      go_end0
      exact ⟨⟨_, rfl⟩, .inl ⟨_, rfl, hJs⟩⟩

set_option maxHeartbeats 1000000 in
theorem backward_any (v : Value) (w : World) (hv : ∃ a len cap, v = .slice a len cap) :
    Calls Tryz.prog 38 #[v] w fun e w' => e = .returned (.func (.func 64) #[] #[.pointer (some ⟨w.heap.size, 0, none⟩)]) ∧ w' = w.alloc (.cells #[v] 82) := by
  obtain ⟨a, len, cap, rfl⟩ := hv
  go_enter Tryz.func38, Tryz.ntmps38
  go_wp2
  go_returns
  exact ⟨rfl, rfl⟩

theorem backward_stops (F : Fence) (n : Nat) (hf : F.fn 64) (hro : F.round = none) (hn : 1 ≤ n) (Bx N q b cap : Nat) (A : Option Addr) (L : List Ba) (hok : ∀ x ∈ L, in64 x.1 ∧ in64 x.2) (hreach : L.length ≤ 1000000)
    (hb : b < N ∧ b ≠ q) (hbx : Bx < N ∧ Bx ≠ q) (w : World) (hN : N ≤ w.heap.size) (hc0 : w.cell? ⟨Bx, 0, none⟩ = some (.slice A L.length cap)) (hc : BaAt w A b L) :
    SeqStopsK F n Tryz.prog 64 #[.pointer (some ⟨Bx, 0, none⟩)] encsB (KpQ N q) (fun ys => ys = bk L L.length) (fun pre => ∃ k, k ≤ L.length ∧ pre = bk L k) L.length w := fun l J Jx W hW _ _ hY h0 =>
  backward1_in F n hf hro hn l Bx N q b cap A L hok hreach hb hbx J Jx hY W ((hW.cell (p := ⟨Bx, 0, none⟩) (by show Bx < w.heap.size; omega)).trans hc0)
    (fun h => ⟨(hc h).1, fun j hj => ⟨(hW.cell (p := ⟨b, j * 2, none⟩) (by show b < w.heap.size; omega)).trans ((hc h).2 j hj).1, (hW.cell (p := ⟨b, j * 2 + 1, none⟩) (by show b < w.heap.size; omega)).trans ((hc h).2 j hj).2⟩⟩) h0
end Go.Proofs.YthkdmpalhdifbaaGreatDoor
