import Derived.Test.YtlfikhblmbidmaaGreatDoorWksA
import Derived.Test.YtlfikhblmbidmaaGreatDoorTabF
import Derived.OpenShut
import Derived.ChangeSlices
import Derived.Deep.Slices
import Derived.Deep.Fields
import Derived.ChangeSame
import Derived.SizedLaws
set_option linter.all false
namespace Go.Proofs.YtlfikhblmbidmaaGreatDoor
open Go.RowKit Go.Maps Go.Shelf Go.ChangeShapes Go.WideShapes Go.Deep
abbrev Sq := Int × Int × Int × Int × ByteArray
def Wf64 (x : Int) : Prop := -9223372036854775808 ≤ x ∧ x ≤ 9223372036854775807
def okSq (s : Sq) : Prop := Wf64 s.1 ∧ Wf64 s.2.1 ∧ Wf64 s.2.2.1 ∧ Wf64 s.2.2.2.1 ∧ s.2.2.2.2.size ≤ 140737488351232
abbrev sqCells (s : Sq) : List Value := [.int .i64 s.1, .int .i64 s.2.1, .int .i64 s.2.2.1, .int .i64 s.2.2.2.1, .string s.2.2.2.2]
def StepsQ (w : World) (v : Value) (L : List Sq) : Prop :=
 ∃ A cap, v = .slice A L.length cap ∧ L.length ≤ cap ∧ cap ≤ maxLen ∧ (∀ s ∈ L, okSq s) ∧
  (0 < L.length → ∃ b off, A = some ⟨b, off, none⟩ ∧ b < w.heap.size ∧ ∀ i s, L[i]? = some s → ∀ j u, (sqCells s)[j]? = some u → w.cell? ⟨b, off + i * 5 + j, none⟩ = some u)
theorem wf64Q {x : Int} (h : (Lit.int .i64 x).wf = true) : Wf64 x := by
 simp [Lit.wf, IntKind.min, IntKind.max, IntKind.signed, IntKind.bits] at h
 unfold Wf64
 omega
section
variable {H : Type} {enc : TypeId × Value → H} {w : World} {base n : Nat} {spare : Nat → Bool} {held : Bool} {cs : List Value} {x : DataW H × List MemPlace}
set_option maxRecDepth 100000 in
theorem balq_open (ht : DataW.trod enc Tryz.prog w base spare held n 24 cs = some x) : ∃ r d, cs = [.int .i64 r, .int .i64 d] ∧ Wf64 r ∧ Wf64 d := by
 obtain ⟨ys, k, _, _, hlen, hyl, hf⟩ := DataW.trod_struct Tryz.underlying24 ht
 rw [show Tryz.prog.cellsOf 24 = 2 by kernel_rfl] at hlen
 have hyl : ys.length = 2 := hyl
 match cs, hlen with
 | [c0, c1], _ =>
  match ys, hyl with
  | [y0, y1], _ =>
   have h0 : DataW.trod enc Tryz.prog w base spare held k 3 [c0] = some y0 := hf 0 _ rfl
   have h1 : DataW.trod enc Tryz.prog w base spare held k 3 [c1] = some y1 := hf 1 _ rfl
   obtain ⟨z0, e0, _, w0⟩ := DataW.trod_int Tryz.underlying3 h0
   obtain ⟨z1, e1, _, w1⟩ := DataW.trod_int Tryz.underlying3 h1
   cases e0
   cases e1
   exact ⟨z0, z1, rfl, wf64Q w0, wf64Q w1⟩
set_option maxRecDepth 100000 in
theorem stq_open (ht : DataW.trod enc Tryz.prog w base spare held n 66 cs = some x) : ∃ s : Sq, cs = sqCells s ∧ Wf64 s.1 ∧ Wf64 s.2.1 ∧ Wf64 s.2.2.1 ∧ Wf64 s.2.2.2.1 ∧ s.2.2.2.2.size ∈ x.1.weights Tryz.prog 66 := by
 obtain ⟨ys, k, _, rfl, hlen, hyl, hf⟩ := DataW.trod_struct Tryz.underlying66 ht
 rw [show Tryz.prog.cellsOf 66 = 5 by kernel_rfl] at hlen
 have hyl : ys.length = 4 := hyl
 match cs, hlen with
 | [c0, c1, c2, c3, c4], _ =>
  match ys, hyl with
  | [y0, y1, y2, y3], _ =>
   have h0 : DataW.trod enc Tryz.prog w base spare held k 3 [c0] = some y0 := hf 0 _ rfl
   have h1 : DataW.trod enc Tryz.prog w base spare held k 3 [c1] = some y1 := hf 1 _ rfl
   have h2 : DataW.trod enc Tryz.prog w base spare held k 24 [c2, c3] = some y2 := hf 2 _ rfl
   have h3 : DataW.trod enc Tryz.prog w base spare held k 9 [c4] = some y3 := hf 3 _ rfl
   obtain ⟨z0, e0, _, w0⟩ := DataW.trod_int Tryz.underlying3 h0
   obtain ⟨z1, e1, _, w1⟩ := DataW.trod_int Tryz.underlying3 h1
   obtain ⟨r, d, e2, w2, w2'⟩ := balq_open h2
   obtain ⟨s, e3, rfl, w3⟩ := DataW.trod_string Tryz.underlying9 h3
   cases e0
   cases e1
   cases e2
   cases e3
   refine ⟨(z0, z1, r, d, s), rfl, wf64Q w0, wf64Q w1, w2, w2', ?_⟩
   simp [DataW.weights, Tryz.underlying66, DataW.weightsEach]
end
theorem weightsAll_mem {H : Type} {P : Program} {e : TypeId} {n : Nat} {d : DataW H} : ∀ {l : List (DataW H)}, d ∈ l → n ∈ d.weights P e → n ∈ DataW.weightsAll P e l
 | y :: l, h, hn => by
  simp only [DataW.weightsAll, List.mem_append]
  rcases List.mem_cons.1 h with rfl | h
  ·exact .inl hn
  ·exact .inr (weightsAll_mem h hn)
theorem StepsQ.of_trod {H : Type} {enc : TypeId × Value → H} {w : World} {base : Nat} {spare : Nat → Bool} {held : Bool} {a0 : Option Addr} {len0 cap0 : Nat} {d : DataW H} {p : List MemPlace}
  (h : DataW.Trod enc Tryz.prog w base spare held 62 (.slice a0 len0 cap0) d p) (hw : (d.weights Tryz.prog 62).all (· ≤ reachBytes) = true) : ∃ L, StepsQ w (.slice a0 len0 cap0) L := by
 obtain ⟨fuel, hf⟩ := h
 rcases open_slice Tryz.underlying62 hf with ⟨hcs, _⟩ | ⟨a, len, cap, m, n, D, Pl, hcs, hb, hl, hm, hmm, hx, hi⟩
 ·simp [Value.cells] at hcs
  obtain ⟨rfl, rfl, rfl⟩ := hcs
  exact ⟨[], none, 0, rfl, Nat.le_refl _, Nat.zero_le _, fun s hs => by simp at hs, fun h => absurd h (by simp)⟩
 ·simp [Value.cells] at hcs
  obtain ⟨rfl, rfl, rfl⟩ := hcs
  obtain rfl : d = _ := congrArg Prod.fst hx
  have hlm : len0 ≤ m := by rw [hmm]; split <;> omega
  have hall : ∀ i, i < len0 → ∃ s : Sq, okSq s ∧ ∀ j u, (sqCells s)[j]? = some u → w.cell? (a.add (i * 5 + j)) = some u := by
   intro i hi'
   obtain ⟨cs, hc, ht⟩ := hi i (by omega)
   rw [show Tryz.prog.cellsOf 66 = 5 by kernel_rfl] at hc
   obtain ⟨s, rfl, w0, w1, w2, w3, hs⟩ := stq_open ht
   obtain ⟨_, hl5, hcell⟩ := World.cells?_some hc
   refine ⟨s, ⟨w0, w1, w2, w3, ?_⟩, fun j u hu => ?_⟩
   ·have hmem : D i ∈ (List.range len0).map D := List.mem_map.2 ⟨i, List.mem_range.2 hi', rfl⟩
    have := List.all_eq_true.1 hw s.2.2.2.2.size (by
     simp only [DataW.weights, Tryz.underlying62]
     exact List.mem_cons_of_mem _ (List.mem_append_left _ (weightsAll_mem hmem hs)))
    have := of_decide_eq_true this
    unfold reachBytes at this
    omega
   have hj : j < 5 := (List.getElem?_eq_some_iff.1 hu).1
   rw [← add_of_add, hcell j hj]
   exact hu
  obtain ⟨f, hf1⟩ : ∃ f : Nat → Sq, ∀ i, i < len0 → okSq (f i) ∧ ∀ j u, (sqCells (f i))[j]? = some u → w.cell? (a.add (i * 5 + j)) = some u :=
   ⟨fun i => if h : i < len0 then Classical.choose (hall i h) else default, fun i hi => by simp only [dif_pos hi]; exact Classical.choose_spec (hall i hi)⟩
  have hlen : ((List.range len0).map f).length = len0 := by simp
  refine ⟨(List.range len0).map f, some a, cap0, by rw [hlen], by rw [hlen]; exact hl, hm, fun s hs => ?_, fun h0 => ?_⟩
  ·simp only [List.mem_map, List.mem_range] at hs
   obtain ⟨i, hi', rfl⟩ := hs
   exact (hf1 i hi').1
  ·rw [hlen] at h0
   obtain ⟨b, off, spot⟩ := a
   have h1 := (hf1 0 h0).2 0 _ rfl
   have hspot : spot = none := by simpa [Addr.add] using World.cell?_spot h1
   subst hspot
   obtain ⟨o, ho, _⟩ := cells_of_cell h1
   refine ⟨b, off, rfl, ?_, fun i s hx j u hu => ?_⟩
   ·simpa [block_of_add] using (Array.getElem?_eq_some_iff.1 ho).1
   ·have hi' : i < len0 := by have := (List.getElem?_eq_some_iff.1 hx).1; omega
    have e : f i = s := by
     simp only [List.getElem?_map, List.getElem?_range hi', Option.map_some] at hx
     exact Option.some.inj hx
    subst e
    have q := (hf1 i hi').2 j u hu
    rw [add_flat] at q
    rw [Nat.add_assoc]
    exact q
theorem StepsQ.below {w w' : World} {v : Value} {L : List Sq} (h : StepsQ w v L) (hb : Below w.heap.size w w') : StepsQ w' v L := by
 obtain ⟨A, cap, h1, h2, h3, h4, h5⟩ := h
 refine ⟨A, cap, h1, h2, h3, h4, fun h0 => ?_⟩
 obtain ⟨b, off, k1, k2, k3⟩ := h5 h0
 exact ⟨b, off, k1, Nat.lt_of_lt_of_le k2 hb.size, fun i s hx j u hu => bcell hb (k3 i s hx j u hu)⟩
def sumQ (L : List Sq) : Nat := (L.map fun s => s.2.2.2.2.size).sum
def fewB (L : List Sq) : Bool := decide (L.length ≤ 50) && decide (sumQ L ≤ 150000)
theorem sumQ_step {L : List Sq} {i : Nat} {s : Sq} (h : L[i]? = some s) : sumQ (L.take (i + 1)) = sumQ (L.take i) + s.2.2.2.2.size := by
 unfold sumQ
 rw [List.take_add_one, h, List.map_append, List.sum_append]
 simp
theorem sumQ_le {L : List Sq} {b : Nat} (h : ∀ s ∈ L, s.2.2.2.2.size ≤ b) : sumQ L ≤ L.length * b := by
 unfold sumQ
 induction L with
 | nil => simp
 | cons x r ih =>
  have h1 := h x (by simp)
  have h2 := ih (fun s hs => h s (List.mem_cons_of_mem _ hs))
  simp only [List.map_cons, List.sum_cons, List.length_cons, Nat.add_mul]
  omega
set_option maxRecDepth 100000 in
set_option maxHeartbeats 1000000 in
theorem few_any (v : Value) (L : List Sq) (w : World) (h : StepsQ w v L) :
  Calls Tryz.prog 36 #[v] w fun e w' => e = .returned (.bool (fewB L)) ∧ Below w.heap.size w w' := by
 obtain ⟨A, cap, rfl, hle, hm, hin, hc⟩ := h
 have HC := Lib.hid hc
 have HIN := Lib.hid hin
 have hml : cap ≤ 9223372036854775807 := by unfold maxLen at hm; omega
 clear hc hin hm
 go_enter Tryz.func36, Tryz.ntmps36
 go_wp2_with fail
 go_loopw [3, 8] (fun c3 c8 wr => ∃ (i : Nat) (z : Int), i ≤ L.length ∧ c8 = .int .i64 (i : Int) ∧ c3 = .int .i64 z ∧ (L.length ≤ 50 → z = sumQ (L.take i)) ∧ Below w.heap.size w wr) (fun _ c _ => L.length - (intOf c).toNat)
 case atStart => exact ⟨0, 0, Nat.zero_le _, rfl, rfl, fun _ => by simp [sumQ], Below.refl _ _⟩
 case round =>
  obtain ⟨i, z, hi, rfl, rfl, hz, hb⟩ := hrel
  have HZ := Lib.hid hz
  have HB := Lib.hid hb
  clear hz
  by_cases hlt : i < L.length
  ·obtain ⟨s, hs⟩ : ∃ s, L[i]? = some s := ⟨_, List.getElem?_eq_getElem hlt⟩
   obtain ⟨b, off, rfl, hbl, hcell⟩ := HC.out (by omega)
   obtain ⟨x0, x1, x2, x3, x4⟩ := s
   have q0 : wr.cell? ⟨b, off + i * 5, none⟩ = some (.int .i64 x0) := bcell hb (hcell i _ hs 0 _ rfl)
   have q1 : wr.cell? ⟨b, off + i * 5 + 1, none⟩ = some (.int .i64 x1) := bcell hb (hcell i _ hs 1 _ rfl)
   have q2 : wr.cell? ⟨b, off + i * 5 + 2, none⟩ = some (.int .i64 x2) := bcell hb (hcell i _ hs 2 _ rfl)
   have q3 : wr.cell? ⟨b, off + i * 5 + 3, none⟩ = some (.int .i64 x3) := bcell hb (hcell i _ hs 3 _ rfl)
   have q4 : wr.cell? ⟨b, off + i * 5 + 4, none⟩ = some (.string x4) := bcell hb (hcell i _ hs 4 _ rfl)
   have HS := Lib.hid (sumQ_step hs)
   have hok := (HIN.out _ (List.mem_of_getElem? hs)).2.2.2.2
   simp only at hok
   have HOK := Lib.hid hok
   clear hcell hs hb hok
   go_wp2_with fail
   go_roundw
   case rel =>
    refine ⟨i + 1, _, by omega, by go_num, rfl, fun h50 => ?_, HB.out.alloc HB.out.size _⟩
    have h1 := HZ.out h50
    have h2 := sumQ_le (L := L.take i) (b := 140737488351232) (fun s hs => (HIN.out s (List.mem_of_mem_take hs)).2.2.2.2)
    have h3 := HOK.out
    rw [List.length_take] at h2
    have h4 : min i L.length * 140737488351232 ≤ 50 * 140737488351232 := Nat.mul_le_mul (by omega) (Nat.le_refl _)
    rw [HS.out, h1]
    have h5 : (sumQ (L.take i) : Int) + x4.size < 9223372036854775808 := by omega
    have h6 : (0 : Int) ≤ (sumQ (L.take i) : Int) + x4.size := by omega
    have h7 : wrap64 ((sumQ (L.take i) : Int) + x4.size) = (sumQ (L.take i) : Int) + x4.size := by unfold wrap64; omega
    rw [h7]
    push_cast
    rfl
   case measure => simp [intOf]; omega
  ·obtain rfl : i = L.length := by omega
   rw [List.take_length] at HZ
   by_cases h50 : L.length ≤ 50
   ·obtain rfl := HZ.out h50
    have d0 : decide ((L.length : Int) ≤ 50) = true := by simp; omega
    by_cases hs : sumQ L ≤ 150000
    ·have d1 : decide ((sumQ L : Int) ≤ 150000) = true := by simp; omega
     have HF : Hid (fewB L = true) := by simp [Hid, fewB, h50, hs]
     clear hb
     go_wp2_with fail
     go_returns
     exact ⟨by rw [HF.out]; rfl, HB.out⟩
    ·have d1 : decide ((sumQ L : Int) ≤ 150000) = false := by simp; omega
     have HF : Hid (fewB L = false) := by simp [Hid, fewB, h50]; omega
     clear hb
     go_wp2_with fail
     go_returns
     exact ⟨by rw [HF.out]; rfl, HB.out⟩
   ·have d0 : decide ((L.length : Int) ≤ 50) = false := by simp; omega
    have HF : Hid (fewB L = false) := by simp [Hid, fewB]; omega
    clear hb
    go_wp2_with fail
    go_returns
    exact ⟨by rw [HF.out]; rfl, HB.out⟩
end Go.Proofs.YtlfikhblmbidmaaGreatDoor